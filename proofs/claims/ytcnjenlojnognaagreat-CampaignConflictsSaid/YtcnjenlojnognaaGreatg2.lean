/- What is proved: the texts B C D E F, one behind the other; each says at its head what it proves, and under which conditions. -/
import Derived.Laws.EntriesVeiled
import Derived.IntWalk
import Derived.BigQuiet
import Derived.Deep.CutBlock
import Derived.Deep.DeepCutAuto
import Derived.Outline
import Derived.Test.YtcnjenlojnognaaGreatg1
/- What is proved: what a campaign in memory is; contracts of campaign.named, all, rising. Conditions: the slices lie in memory. -/
namespace Go.Proofs.YtcnjenlojnognaaGreat
open Go.RowKit

/-- The numbers l lie at A. -/
def IntsAt (w:World) (B:Nat) (A:Option Addr) (l:List Int):Prop:=Sl w B 1 A l.length fun i _=>.int .i64 (numI l i)
theorem IntsAt.below {w w':World} {B:Nat} {A:Option Addr} {l:List Int} (h:IntsAt w B A l) (hb:Below B w w'):IntsAt w' B A l:=Sl.below h hb
theorem IntsAt.later {w w':World} {A:Option Addr} {l:List Int} (h:IntsAt w w.heap.size A l) (hb:Below w.heap.size w w'):IntsAt w' w'.heap.size A l:=(Sl.below h hb).mono hb.size
def craftC (x:CraftD) (j:Nat):Value:=match j with | 0=>.string x.name | 1=>.int .i64 x.lift | 2=>.int .i64 x.ready | _=>.int .i64 x.again
def padC (x:PadD) (A:Option Addr) (c:Nat) (j:Nat):Value:=match j with | 0=>.string x.name | 1=>.int .i64 x.clean | _=>.slice A x.takes.length c
def cargoC (x:CargoD) (j:Nat):Value:=match j with | 0=>.string x.name | 1=>.int .i64 x.mass | 2=>.int .i64 x.value | 3=>.int .i64 x.frm | 4=>.int .i64 x.to | _=>.bool x.must
/-- The i-th of each, by a natural number. -/
def CampD.craftN (c:CampD) (i:Nat):CraftD:=c.crafts.getD i craft0
def CampD.padN (c:CampD) (i:Nat):PadD:=c.pads.getD i pad0
def CampD.cargoN (c:CampD) (i:Nat):CargoD:=c.cargos.getD i cargo0
theorem craft_nat (c:CampD) (i:Nat):c.craft (i:Int)=c.craftN i:=rfl
theorem pad_nat (c:CampD) (i:Nat):c.pad (i:Int)=c.padN i:=rfl
theorem cargo_nat (c:CampD) (i:Nat):c.cargo (i:Int)=c.cargoN i:=rfl
/-- Where a campaign's lists lie. -/
structure CV where
 cA:Option Addr
 cc:Nat
 pA:Option Addr
 pc:Nat
 gA:Option Addr
 gc:Nat
 tA:Nat→Option Addr
 tc:Nat→Nat
def campA (V:CV) (c:CampD):Array Value:=#[.slice V.cA c.crafts.length V.cc,.slice V.pA c.pads.length V.pc,.slice V.gA c.cargos.length V.gc,.int .i64 c.margin]
structure CampAt (w:World) (B:Nat) (V:CV) (c:CampD):Prop where
 crafts:Sl w B 4 V.cA c.crafts.length fun i=>craftC (c.craftN i)
 pads:Sl w B 3 V.pA c.pads.length fun i=>padC (c.padN i) (V.tA i) (V.tc i)
 cargos:Sl w B 6 V.gA c.cargos.length fun i=>cargoC (c.cargoN i)
 takes:∀ i,i<c.pads.length→IntsAt w B (V.tA i) (c.padN i).takes
theorem CampAt.below {w w':World} {B:Nat} {V:CV} {c:CampD} (h:CampAt w B V c) (hb:Below B w w'):CampAt w' B V c:=⟨h.crafts.below hb,h.pads.below hb,h.cargos.below hb,fun i hi=>(h.takes i hi).below hb⟩
theorem CampAt.mono {w:World} {B B':Nat} {V:CV} {c:CampD} (h:CampAt w B V c) (hb:B≤B'):CampAt w B' V c:=⟨h.crafts.mono hb,h.pads.mono hb,h.cargos.mono hb,fun i hi=>Sl.mono (h.takes i hi) hb⟩
theorem CampAt.later {w w':World} {V:CV} {c:CampD} (h:CampAt w w.heap.size V c) (hb:Below w.heap.size w w'):CampAt w' w'.heap.size V c:=(h.below hb).mono hb.size

theorem zero_bool (w:World):(zeroValue 4).run Tryz.prog w=.ok (.bool false) w:=by kernel_rfl
theorem SetS.below {w w':World} {B b:Nat} {l:List ByteArray} (h:SetS w b l) (hb:Below B w w') (hB:b<B):SetS w' b l:=h.keep (hb.block b hB)
def namedN (n:Nat) (s:Nat→ByteArray) (most:Int):Bool:=(allN n fun i=>inB (s i).size 1 32 && allN i fun j=>!decide (s j=s i)) && inB n 1 most

set_option maxRecDepth 100000 in
set_option maxHeartbeats 4000000 in
theorem rising_any (w:World) (A:Option Addr) (c:Nat) (l:List Int) (many:Int) (h:IntsAt w w.heap.size A l) :
  Calls Tryz.prog 48 #[.slice A l.length c,.int .i64 many] w fun e w'=>e=.returned (.bool (risingB l many))∧w'=w:=by
 have HL:=Lib.hid h
 have hll:=h.1
 obtain ⟨n,hn⟩:∃ n,l.length=n:=⟨_,rfl⟩
 have HN:=Lib.hid hn
 have HD:Hid (risingB l many=allN n fun i=>inB (numI l i) 0 (many - 1) && (decide (i=0) || decide (numI l (i - 1)<numI l i))):=Lib.hid (by unfold risingB;rw [hn])
 obtain ⟨R,hR⟩:∃ R,risingB l many=R:=⟨_,rfl⟩
 have HFIN:Hid (∀ (e:Ending) (w':World),e=.returned (.bool R)→w'=w→e=.returned (.bool R)∧w'=w):=Lib.hid fun _ _ a b=>⟨a,b⟩
 rw [hn] at hll ⊢
 rw [hR] at HD ⊢
 clear h hn hR
 go_enter Tryz.func48,Tryz.ntmps48
 go_wp2_with fail
 go_loopw [5,10] (fun v i wr=>∃ (k:Nat) (u:Int),k≤n∧i=.int .i64 k∧v=.int .i64 u∧Hid (wr=w∧(u=if k=0 then -1 else numI l (k - 1))∧-1≤u∧(∀ j,j<k→(inB (numI l j) 0 (many - 1) && (decide (j=0) || decide (numI l (j - 1)<numI l j)))=true))) (fun _ i _=>n - (intOf i).toNat)
 case atStart=>exact ⟨0,-1,Nat.zero_le _,rfl,rfl,Lib.hid ⟨rfl,rfl,by omega,fun j hj=>absurd hj (Nat.not_lt_zero j)⟩⟩
 case round =>
  obtain ⟨k,u,hk,rfl,rfl,hs⟩:=hrel
  obtain ⟨hw,hu,hu1,hno⟩:=hs.out
  subst hw
  have HU:=Lib.hid hu
  have HU1:=Lib.hid hu1
  have HNO:=Lib.hid hno
  clear hno hs hu hu1
  by_cases hlt:k<n
  ·have hki:(k:Int)<(n:Int):=by omega
   have h0k:(0:Int)≤(k:Int):=by omega
   have hkt:k<l.length:=by rw [HN.out];exact hlt
   obtain ⟨bb,off,rfl,_,d0⟩:=Sl.at1 HL.out hkt
   obtain ⟨y,hy⟩:∃ y,numI l k=y:=⟨_,rfl⟩
   have HY:=Lib.hid hy
   try dsimp only at d0
   rw [hy] at d0
   clear hy
   by_cases he:u<y∧y<many
   ·obtain ⟨h1,h2⟩:=he
    have g1:decide (y≤u)=false:=decide_eq_false (by omega)
    have g2:decide (many≤y)=false:=decide_eq_false (by omega)
    have HE:=Lib.hid h1
    have HE2:=Lib.hid h2
    clear h1 h2
    go_wp2_with fail
    go_roundw
    case rel=>exact ⟨k+1,y,by omega,by go_num,rfl,Lib.hid ⟨by first | exact trivial | rfl,by rw [if_neg (by omega)];exact HY.out.symm,by have:=HE.out;have:=HU1.out;omega,fun j hj=>by
     by_cases e:j=k
     ·subst e
      rw [Bool.and_eq_true,inB_iff,Bool.or_eq_true,decide_eq_true_eq,decide_eq_true_eq,HY.out]
      refine ⟨⟨by have:=HE.out;have:=HU1.out;omega,by have:=HE2.out;omega⟩,?_⟩
      by_cases e0:j=0
      ·exact Or.inl e0
      ·right;have:=HU.out;rw [if_neg e0] at this;rw [← this];exact HE.out
     ·exact HNO.out j (by omega)⟩⟩
    case measure=>simp [intOf];omega
   ·have HR:Hid (R=false):=Lib.hid (by
     rw [HD.out]
     cases ha:allN n _ with
     | false=>rfl
     | true =>
      have:=allN_iff.1 ha k hlt
      rw [Bool.and_eq_true,inB_iff,Bool.or_eq_true,decide_eq_true_eq,decide_eq_true_eq,HY.out] at this
      exfalso
      apply he
      refine ⟨?_,by omega⟩
      have hu:=HU.out
      by_cases e0:k=0
      ·rw [if_pos e0] at hu;omega
      ·rw [if_neg e0] at hu;rcases this.2 with h | h
       ·exact absurd h e0
       ·omega)
    by_cases h1:y≤u
    ·have g1:decide (y≤u)=true:=decide_eq_true h1
     clear he
     go_wp2_with fail
     go_ret
     exact HFIN.out _ _ (by rw [HR.out];rfl) rfl
    ·have g1:decide (y≤u)=false:=decide_eq_false h1
     have g2:decide (many≤y)=true:=decide_eq_true (by omega)
     clear he h1
     go_wp2_with fail
     go_ret
     exact HFIN.out _ _ (by rw [HR.out];rfl) rfl
  ·obtain rfl:k=n:=by omega
   have HR:Hid (R=true):=Lib.hid (by
    rw [HD.out];exact allN_iff.2 fun i hi=>HNO.out i hi)
   go_wp2_with fail
   go_ret
   exact HFIN.out _ _ (by rw [HR.out];rfl) rfl

set_option maxHeartbeats 400000 in
theorem negCra (w:World) (g:Nat) (lb:Array Value) (v0 v1 v2 v3:Value) (r:Bool) (p:Nat) (eg:∀ args w,(callFunc g args).run Tryz.prog w=.ok (.enter g args) w)
  (hp:w.cell? ⟨p,0,none⟩=some (.func (.func g) #[] lb))
  (hq:∀ w',Below w.heap.size w w'→Calls Tryz.prog g (#[.agg #[v0,v1,v2,v3]] ++ lb) w' fun e w''=>e=.returned (.bool r)∧Below w'.heap.size w' w'') :
  Calls Tryz.prog 88 #[.agg #[v0,v1,v2,v3],.pointer (some ⟨p,0,none⟩)] w fun e w'=>e=.returned (.bool (!r))∧Below w.heap.size w w':=by
 have HQ:=Lib.hid hq;clear hq
 have hlt:p<w.heap.size:=by
  rcases Nat.lt_or_ge p w.heap.size with h | h
  ·exact h
  ·simp [World.cell?,Array.getElem?_eq_none h] at hp
 go_enter Tryz.func88,Tryz.ntmps88
 go_wp2_with fail
 refine (HQ.out _ ((Below.refl _ _).alloc (Nat.le_refl _) _)).mono ?_
 rintro e w' ⟨rfl,hb⟩
 go_wp2_with fail
 go_ret
 exact ⟨ret_bool rfl,((Below.refl _ _).alloc (Nat.le_refl _) _).trans (hb.mono (by simp))⟩

set_option maxHeartbeats 400000 in
theorem allCra (w:World) (A:Option Addr) (n c:Nat) (f:Nat→Nat→Value) (h:Sl w w.heap.size 4 A n f) (g:Nat) (lb:Array Value) (q:Nat→Bool)
  (eg:∀ args w,(callFunc g args).run Tryz.prog w=.ok (.enter g args) w)
  (hq:ClosAt Tryz.prog w g lb n (fun i=>.agg #[f i 0,f i 1,f i 2,f i 3]) q) :
  Calls Tryz.prog 50 #[.slice A n c,.func (.func g) #[] lb] w fun e w'=>e=.returned (.bool (allN n q))∧Below w.heap.size w w':=by
 have hb0:∀ o,Below w.heap.size w (w.alloc o):=fun o=>(Below.refl _ _).alloc (Nat.le_refl _) _
 have HC:Hid (∀ t,Calls Tryz.prog 87 #[.slice A n c,.func (.func 88) #[] #[.pointer (some ⟨w.heap.size,0,none⟩)]] (w.alloc (.cells #[.func (.func g) #[] lb] t))
   fun e w'=>e=.returned (.bool (!(allN n fun i=>!!q i)))∧Below (w.alloc (.cells #[.func (.func g) #[] lb] t)).heap.size (w.alloc (.cells #[.func (.func g) #[] lb] t)) w'):=Lib.hid fun t=>by
  refine conCra _ A n c f ((h.below (hb0 _)).mono (by simp)) 88 _ (fun i=>!q i) (fun args w=>by kernel_rfl) ?_
  intro w' hw' i hi
  refine negCra w' g lb _ _ _ _ (q i) _ eg ?_ (fun w'' hw''=>hq w'' ((hb0 _).trans ((hw'.mono (by simp)).trans (hw''.mono (by have:=hw'.size;simp at this;omega)))) i hi)
  rw [hw'.cell (p:=⟨w.heap.size,0,none⟩) (by simp)]
  simp
 clear hq h eg
 go_enter Tryz.func50,Tryz.ntmps50
 go_wp2_with fail
 refine (HC.out _).mono ?_
 rintro e w' ⟨rfl,hb⟩
 go_wp2_with fail
 go_ret
 exact ⟨ret_bool (by simp),(hb0 _).trans (hb.mono (by simp))⟩

set_option maxHeartbeats 400000 in
theorem nameCra_any (w:World) (s:ByteArray) (v1 v2 v3:Value) :
  Calls Tryz.prog 40 #[.agg #[.string s,v1,v2,v3]] w fun e w'=>e=.returned (.string s)∧Below w.heap.size w w':=by
 go_enter Tryz.func40,Tryz.ntmps40
 go_wp2_with fail
 go_ret
 exact ⟨rfl,(Below.refl _ _).alloc (Nat.le_refl _) _⟩
set_option maxRecDepth 100000 in
set_option maxHeartbeats 2000000 in
theorem namedCra_any (w:World) (A:Option Addr) (n c:Nat) (D:Nat→CraftD) (most:Int) (h:Sl w w.heap.size 4 A n fun i=>craftC (D i)) :
  Calls Tryz.prog 39 #[.slice A n c,.int .i64 most,.func (.func 40) #[] #[]] w fun e w'=>e=.returned (.bool (namedN n (fun i=>(D i).name) most))∧Below w.heap.size w w':=by
 have hn:=h.1
 obtain ⟨s,hs⟩:∃ s:Nat→ByteArray,s=fun i=>(D i).name:=⟨_,rfl⟩
 have HS:Hid (∀ i,(D i).name=s i):=Lib.hid fun i=>by rw [hs]
 rw [← hs]
 have hmm:=@run_makeMap Tryz.prog
 have HNM:=Lib.hid (nameCra_any)
 have H:=Lib.hid h
 clear h hs
 go_enter Tryz.func39,Tryz.ntmps39
 go_wp2_with fail
 go_loopw [14] (fun i wr=>∃ k:Nat,k≤n∧i=.int .i64 k∧Hid (∀ i,i<k→inB (s i).size 1 32=true∧∀ j,j<i→s j ≠ s i)∧Below w.heap.size w wr∧SetS wr w.heap.size ((List.range k).map s)) (fun i _=>n - (intOf i).toNat)
 case atStart=>exact ⟨0,Nat.zero_le _,rfl,Lib.hid fun j hj=>absurd hj (by omega),(Below.refl _ _).alloc (Nat.le_refl _) _,SetS.made w⟩
 case round =>
  obtain ⟨k,hk,rfl,hl,hb,hs⟩:=hrel
  by_cases hlt:k<n
  ·obtain ⟨b,off,rfl,hB,c0,c1,c2,c3⟩:=(H.out.below hb).at4 hlt
   dsimp only [craftC] at c0 c1 c2 c3
   rw [HS.out k] at c0
   have hbs:=hs.lt
   have HST:=Lib.hid hs
   have HB:=Lib.hid hb
   clear hs hb
   go_wp2_with fail
   refine (HNM.out _ _ _ _ _).mono ?_
   rintro e w1 ⟨rfl,hb1⟩
   have hs1:SetS w1 w.heap.size ((List.range k).map s):=(HST.out.alloc _).below hb1 (by simp;omega)
   have hbb:Below w.heap.size w w1:=(HB.out.alloc HB.out.size _).trans (hb1.mono (by simp;omega))
   have HBB:=Lib.hid hbb
   clear hb1 hbb
   have hlook:=hs1.lookup (P:=Tryz.prog) Tryz.underlying108 Tryz.underlying9 (zero_bool w1) (s k)
   by_cases h1:inB (s k).size 1 32=true
   ·by_cases h2:s k ∈ (List.range k).map s
    ·have ha:(((List.range k).map s).any fun x=>decide (x=s k))=true:=by rw [List.any_eq_true];exact ⟨_,h2,by simp⟩
     rw [ha] at hlook
     have Hf:Hid (namedN n s most=false):=Lib.hid (by
      have:(allN n fun i=>inB (s i).size 1 32 && allN i fun j=>!decide (s j=s i))=false:=by
       unfold allN;rw [List.all_eq_false]
       simp only [List.mem_map,List.mem_range] at h2
       obtain ⟨j,hj,he⟩:=h2
       refine ⟨k,by simpa using hlt,?_⟩
       simp only [Bool.and_eq_true,h1,true_and,List.all_eq_true,List.mem_range]
       intro hc;have:=hc j hj;simp [he] at this
      unfold namedN;rw [this];rfl)
     clear ha h2 hl hs1
     go_wp2_with (go_at_call 46;refine (within_any _ _ _ _).mono ?_;rintro e w' ⟨rfl,rfl⟩)
     go_ret
     exact ⟨ret_bool Hf.out.symm,HBB.out⟩
    ·have ha:(((List.range k).map s).any fun x=>decide (x=s k))=false:=by rw [List.any_eq_false];intro x hx;simp;rintro rfl;exact h2 hx
     rw [ha] at hlook
     obtain ⟨w2,hupd,hs2,hz2,hb2⟩:=hs1.update (P:=Tryz.prog) Tryz.underlying108 Tryz.underlying9 (s k) h2
     have hb3:=hb2 w.heap.size (Nat.le_refl _)
     clear ha hs1 hb2
     have Hn:=Lib.hid h2;clear h2
     go_wp2_with (go_at_call 46;refine (within_any _ _ _ _).mono ?_;rintro e w' ⟨rfl,rfl⟩)
     go_roundw
     case rel =>
      refine ⟨k+1,by omega,by go_num,Lib.hid fun i hi=>?_,HBB.out.trans hb3,?_⟩
      ·by_cases e:i=k
       ·subst e
        refine ⟨h1,fun j hj he=>Hn.out ?_⟩
        rw [← he];exact List.mem_map.2 ⟨j,by simpa using hj,rfl⟩
       ·exact hl.out i (by omega)
      ·rw [List.range_succ,List.map_append];exact hs2
     case measure=>simp [intOf];omega
   ·have h1':inB (s k).size 1 32=false:=by simpa using h1
    have Hf:Hid (namedN n s most=false):=Lib.hid (by
     have:(allN n fun i=>inB (s i).size 1 32 && allN i fun j=>!decide (s j=s i))=false:=by
      unfold allN;rw [List.all_eq_false]
      exact ⟨k,by simpa using hlt,by simp [h1']⟩
     unfold namedN;rw [this];rfl)
    clear h1 hl hs1
    go_wp2_with (go_at_call 46;refine (within_any _ _ _ _).mono ?_;rintro e w' ⟨rfl,rfl⟩)
    go_ret
    exact ⟨ret_bool Hf.out.symm,HBB.out⟩
  ·obtain rfl:k=n:=by omega
   have Hf:Hid (namedN k s most=inB k 1 most):=Lib.hid (by
    have:(allN k fun i=>inB (s i).size 1 32 && allN i fun j=>!decide (s j=s i))=true:=by
     unfold allN;rw [List.all_eq_true]
     intro i hi
     have:=hl.out i (by simpa using hi)
     simp only [Bool.and_eq_true,this.1,true_and,List.all_eq_true,List.mem_range]
     intro j hj;simpa using this.2 j hj
    unfold namedN;rw [this];rfl)
   clear hl
   go_wp2_with (go_at_call 46;refine (within_any _ _ _ _).mono ?_;rintro e w' ⟨rfl,rfl⟩)
   go_ret
   exact ⟨ret_bool Hf.out.symm,hb⟩

set_option maxHeartbeats 400000 in
theorem negPad (w:World) (g:Nat) (lb:Array Value) (v0 v1 v2:Value) (r:Bool) (p:Nat) (eg:∀ args w,(callFunc g args).run Tryz.prog w=.ok (.enter g args) w)
  (hp:w.cell? ⟨p,0,none⟩=some (.func (.func g) #[] lb))
  (hq:∀ w',Below w.heap.size w w'→Calls Tryz.prog g (#[.agg #[v0,v1,v2]] ++ lb) w' fun e w''=>e=.returned (.bool r)∧Below w'.heap.size w' w'') :
  Calls Tryz.prog 90 #[.agg #[v0,v1,v2],.pointer (some ⟨p,0,none⟩)] w fun e w'=>e=.returned (.bool (!r))∧Below w.heap.size w w':=by
 have HQ:=Lib.hid hq;clear hq
 have hlt:p<w.heap.size:=by
  rcases Nat.lt_or_ge p w.heap.size with h | h
  ·exact h
  ·simp [World.cell?,Array.getElem?_eq_none h] at hp
 go_enter Tryz.func90,Tryz.ntmps90
 go_wp2_with fail
 refine (HQ.out _ ((Below.refl _ _).alloc (Nat.le_refl _) _)).mono ?_
 rintro e w' ⟨rfl,hb⟩
 go_wp2_with fail
 go_ret
 exact ⟨ret_bool rfl,((Below.refl _ _).alloc (Nat.le_refl _) _).trans (hb.mono (by simp))⟩

set_option maxHeartbeats 400000 in
theorem allPad (w:World) (A:Option Addr) (n c:Nat) (f:Nat→Nat→Value) (h:Sl w w.heap.size 3 A n f) (g:Nat) (lb:Array Value) (q:Nat→Bool)
  (eg:∀ args w,(callFunc g args).run Tryz.prog w=.ok (.enter g args) w)
  (hq:ClosAt Tryz.prog w g lb n (fun i=>.agg #[f i 0,f i 1,f i 2]) q) :
  Calls Tryz.prog 51 #[.slice A n c,.func (.func g) #[] lb] w fun e w'=>e=.returned (.bool (allN n q))∧Below w.heap.size w w':=by
 have hb0:∀ o,Below w.heap.size w (w.alloc o):=fun o=>(Below.refl _ _).alloc (Nat.le_refl _) _
 have HC:Hid (∀ t,Calls Tryz.prog 89 #[.slice A n c,.func (.func 90) #[] #[.pointer (some ⟨w.heap.size,0,none⟩)]] (w.alloc (.cells #[.func (.func g) #[] lb] t))
   fun e w'=>e=.returned (.bool (!(allN n fun i=>!!q i)))∧Below (w.alloc (.cells #[.func (.func g) #[] lb] t)).heap.size (w.alloc (.cells #[.func (.func g) #[] lb] t)) w'):=Lib.hid fun t=>by
  refine conPad _ A n c f ((h.below (hb0 _)).mono (by simp)) 90 _ (fun i=>!q i) (fun args w=>by kernel_rfl) ?_
  intro w' hw' i hi
  refine negPad w' g lb _ _ _ (q i) _ eg ?_ (fun w'' hw''=>hq w'' ((hb0 _).trans ((hw'.mono (by simp)).trans (hw''.mono (by have:=hw'.size;simp at this;omega)))) i hi)
  rw [hw'.cell (p:=⟨w.heap.size,0,none⟩) (by simp)]
  simp
 clear hq h eg
 go_enter Tryz.func51,Tryz.ntmps51
 go_wp2_with fail
 refine (HC.out _).mono ?_
 rintro e w' ⟨rfl,hb⟩
 go_wp2_with fail
 go_ret
 exact ⟨ret_bool (by simp),(hb0 _).trans (hb.mono (by simp))⟩

set_option maxHeartbeats 400000 in
theorem namePad_any (w:World) (s:ByteArray) (v1 v2:Value) :
  Calls Tryz.prog 42 #[.agg #[.string s,v1,v2]] w fun e w'=>e=.returned (.string s)∧Below w.heap.size w w':=by
 go_enter Tryz.func42,Tryz.ntmps42
 go_wp2_with fail
 go_ret
 exact ⟨rfl,(Below.refl _ _).alloc (Nat.le_refl _) _⟩
set_option maxRecDepth 100000 in
set_option maxHeartbeats 2000000 in
theorem namedPad_any (w:World) (A:Option Addr) (n c:Nat) (D:Nat→PadD) (tA:Nat→Option Addr) (tc:Nat→Nat) (most:Int) (h:Sl w w.heap.size 3 A n fun i=>padC (D i) (tA i) (tc i)) :
  Calls Tryz.prog 41 #[.slice A n c,.int .i64 most,.func (.func 42) #[] #[]] w fun e w'=>e=.returned (.bool (namedN n (fun i=>(D i).name) most))∧Below w.heap.size w w':=by
 have hn:=h.1
 obtain ⟨s,hs⟩:∃ s:Nat→ByteArray,s=fun i=>(D i).name:=⟨_,rfl⟩
 have HS:Hid (∀ i,(D i).name=s i):=Lib.hid fun i=>by rw [hs]
 rw [← hs]
 have hmm:=@run_makeMap Tryz.prog
 have HNM:=Lib.hid (namePad_any)
 have H:=Lib.hid h
 clear h hs
 go_enter Tryz.func41,Tryz.ntmps41
 go_wp2_with fail
 go_loopw [14] (fun i wr=>∃ k:Nat,k≤n∧i=.int .i64 k∧Hid (∀ i,i<k→inB (s i).size 1 32=true∧∀ j,j<i→s j ≠ s i)∧Below w.heap.size w wr∧SetS wr w.heap.size ((List.range k).map s)) (fun i _=>n - (intOf i).toNat)
 case atStart=>exact ⟨0,Nat.zero_le _,rfl,Lib.hid fun j hj=>absurd hj (by omega),(Below.refl _ _).alloc (Nat.le_refl _) _,SetS.made w⟩
 case round =>
  obtain ⟨k,hk,rfl,hl,hb,hs⟩:=hrel
  by_cases hlt:k<n
  ·obtain ⟨b,off,rfl,hB,c0,c1,c2⟩:=(H.out.below hb).at3 hlt
   dsimp only [padC] at c0 c1 c2
   rw [HS.out k] at c0
   have hbs:=hs.lt
   have HST:=Lib.hid hs
   have HB:=Lib.hid hb
   clear hs hb
   go_wp2_with fail
   refine (HNM.out _ _ _ _).mono ?_
   rintro e w1 ⟨rfl,hb1⟩
   have hs1:SetS w1 w.heap.size ((List.range k).map s):=(HST.out.alloc _).below hb1 (by simp;omega)
   have hbb:Below w.heap.size w w1:=(HB.out.alloc HB.out.size _).trans (hb1.mono (by simp;omega))
   have HBB:=Lib.hid hbb
   clear hb1 hbb
   have hlook:=hs1.lookup (P:=Tryz.prog) Tryz.underlying108 Tryz.underlying9 (zero_bool w1) (s k)
   by_cases h1:inB (s k).size 1 32=true
   ·by_cases h2:s k ∈ (List.range k).map s
    ·have ha:(((List.range k).map s).any fun x=>decide (x=s k))=true:=by rw [List.any_eq_true];exact ⟨_,h2,by simp⟩
     rw [ha] at hlook
     have Hf:Hid (namedN n s most=false):=Lib.hid (by
      have:(allN n fun i=>inB (s i).size 1 32 && allN i fun j=>!decide (s j=s i))=false:=by
       unfold allN;rw [List.all_eq_false]
       simp only [List.mem_map,List.mem_range] at h2
       obtain ⟨j,hj,he⟩:=h2
       refine ⟨k,by simpa using hlt,?_⟩
       simp only [Bool.and_eq_true,h1,true_and,List.all_eq_true,List.mem_range]
       intro hc;have:=hc j hj;simp [he] at this
      unfold namedN;rw [this];rfl)
     clear ha h2 hl hs1
     go_wp2_with (go_at_call 46;refine (within_any _ _ _ _).mono ?_;rintro e w' ⟨rfl,rfl⟩)
     go_ret
     exact ⟨ret_bool Hf.out.symm,HBB.out⟩
    ·have ha:(((List.range k).map s).any fun x=>decide (x=s k))=false:=by rw [List.any_eq_false];intro x hx;simp;rintro rfl;exact h2 hx
     rw [ha] at hlook
     obtain ⟨w2,hupd,hs2,hz2,hb2⟩:=hs1.update (P:=Tryz.prog) Tryz.underlying108 Tryz.underlying9 (s k) h2
     have hb3:=hb2 w.heap.size (Nat.le_refl _)
     clear ha hs1 hb2
     have Hn:=Lib.hid h2;clear h2
     go_wp2_with (go_at_call 46;refine (within_any _ _ _ _).mono ?_;rintro e w' ⟨rfl,rfl⟩)
     go_roundw
     case rel =>
      refine ⟨k+1,by omega,by go_num,Lib.hid fun i hi=>?_,HBB.out.trans hb3,?_⟩
      ·by_cases e:i=k
       ·subst e
        refine ⟨h1,fun j hj he=>Hn.out ?_⟩
        rw [← he];exact List.mem_map.2 ⟨j,by simpa using hj,rfl⟩
       ·exact hl.out i (by omega)
      ·rw [List.range_succ,List.map_append];exact hs2
     case measure=>simp [intOf];omega
   ·have h1':inB (s k).size 1 32=false:=by simpa using h1
    have Hf:Hid (namedN n s most=false):=Lib.hid (by
     have:(allN n fun i=>inB (s i).size 1 32 && allN i fun j=>!decide (s j=s i))=false:=by
      unfold allN;rw [List.all_eq_false]
      exact ⟨k,by simpa using hlt,by simp [h1']⟩
     unfold namedN;rw [this];rfl)
    clear h1 hl hs1
    go_wp2_with (go_at_call 46;refine (within_any _ _ _ _).mono ?_;rintro e w' ⟨rfl,rfl⟩)
    go_ret
    exact ⟨ret_bool Hf.out.symm,HBB.out⟩
  ·obtain rfl:k=n:=by omega
   have Hf:Hid (namedN k s most=inB k 1 most):=Lib.hid (by
    have:(allN k fun i=>inB (s i).size 1 32 && allN i fun j=>!decide (s j=s i))=true:=by
     unfold allN;rw [List.all_eq_true]
     intro i hi
     have:=hl.out i (by simpa using hi)
     simp only [Bool.and_eq_true,this.1,true_and,List.all_eq_true,List.mem_range]
     intro j hj;simpa using this.2 j hj
    unfold namedN;rw [this];rfl)
   clear hl
   go_wp2_with (go_at_call 46;refine (within_any _ _ _ _).mono ?_;rintro e w' ⟨rfl,rfl⟩)
   go_ret
   exact ⟨ret_bool Hf.out.symm,hb⟩

set_option maxHeartbeats 400000 in
theorem negCar (w:World) (g:Nat) (lb:Array Value) (v0 v1 v2 v3 v4 v5:Value) (r:Bool) (p:Nat) (eg:∀ args w,(callFunc g args).run Tryz.prog w=.ok (.enter g args) w)
  (hp:w.cell? ⟨p,0,none⟩=some (.func (.func g) #[] lb))
  (hq:∀ w',Below w.heap.size w w'→Calls Tryz.prog g (#[.agg #[v0,v1,v2,v3,v4,v5]] ++ lb) w' fun e w''=>e=.returned (.bool r)∧Below w'.heap.size w' w'') :
  Calls Tryz.prog 92 #[.agg #[v0,v1,v2,v3,v4,v5],.pointer (some ⟨p,0,none⟩)] w fun e w'=>e=.returned (.bool (!r))∧Below w.heap.size w w':=by
 have HQ:=Lib.hid hq;clear hq
 have hlt:p<w.heap.size:=by
  rcases Nat.lt_or_ge p w.heap.size with h | h
  ·exact h
  ·simp [World.cell?,Array.getElem?_eq_none h] at hp
 go_enter Tryz.func92,Tryz.ntmps92
 go_wp2_with fail
 refine (HQ.out _ ((Below.refl _ _).alloc (Nat.le_refl _) _)).mono ?_
 rintro e w' ⟨rfl,hb⟩
 go_wp2_with fail
 go_ret
 exact ⟨ret_bool rfl,((Below.refl _ _).alloc (Nat.le_refl _) _).trans (hb.mono (by simp))⟩

set_option maxHeartbeats 400000 in
theorem allCar (w:World) (A:Option Addr) (n c:Nat) (f:Nat→Nat→Value) (h:Sl w w.heap.size 6 A n f) (g:Nat) (lb:Array Value) (q:Nat→Bool)
  (eg:∀ args w,(callFunc g args).run Tryz.prog w=.ok (.enter g args) w)
  (hq:ClosAt Tryz.prog w g lb n (fun i=>.agg #[f i 0,f i 1,f i 2,f i 3,f i 4,f i 5]) q) :
  Calls Tryz.prog 52 #[.slice A n c,.func (.func g) #[] lb] w fun e w'=>e=.returned (.bool (allN n q))∧Below w.heap.size w w':=by
 have hb0:∀ o,Below w.heap.size w (w.alloc o):=fun o=>(Below.refl _ _).alloc (Nat.le_refl _) _
 have HC:Hid (∀ t,Calls Tryz.prog 91 #[.slice A n c,.func (.func 92) #[] #[.pointer (some ⟨w.heap.size,0,none⟩)]] (w.alloc (.cells #[.func (.func g) #[] lb] t))
   fun e w'=>e=.returned (.bool (!(allN n fun i=>!!q i)))∧Below (w.alloc (.cells #[.func (.func g) #[] lb] t)).heap.size (w.alloc (.cells #[.func (.func g) #[] lb] t)) w'):=Lib.hid fun t=>by
  refine conCar _ A n c f ((h.below (hb0 _)).mono (by simp)) 92 _ (fun i=>!q i) (fun args w=>by kernel_rfl) ?_
  intro w' hw' i hi
  refine negCar w' g lb _ _ _ _ _ _ (q i) _ eg ?_ (fun w'' hw''=>hq w'' ((hb0 _).trans ((hw'.mono (by simp)).trans (hw''.mono (by have:=hw'.size;simp at this;omega)))) i hi)
  rw [hw'.cell (p:=⟨w.heap.size,0,none⟩) (by simp)]
  simp
 clear hq h eg
 go_enter Tryz.func52,Tryz.ntmps52
 go_wp2_with fail
 refine (HC.out _).mono ?_
 rintro e w' ⟨rfl,hb⟩
 go_wp2_with fail
 go_ret
 exact ⟨ret_bool (by simp),(hb0 _).trans (hb.mono (by simp))⟩

set_option maxHeartbeats 400000 in
theorem nameCar_any (w:World) (s:ByteArray) (v1 v2 v3 v4 v5:Value) :
  Calls Tryz.prog 44 #[.agg #[.string s,v1,v2,v3,v4,v5]] w fun e w'=>e=.returned (.string s)∧Below w.heap.size w w':=by
 go_enter Tryz.func44,Tryz.ntmps44
 go_wp2_with fail
 go_ret
 exact ⟨rfl,(Below.refl _ _).alloc (Nat.le_refl _) _⟩
set_option maxRecDepth 100000 in
set_option maxHeartbeats 2000000 in
theorem namedCar_any (w:World) (A:Option Addr) (n c:Nat) (D:Nat→CargoD) (most:Int) (h:Sl w w.heap.size 6 A n fun i=>cargoC (D i)) :
  Calls Tryz.prog 43 #[.slice A n c,.int .i64 most,.func (.func 44) #[] #[]] w fun e w'=>e=.returned (.bool (namedN n (fun i=>(D i).name) most))∧Below w.heap.size w w':=by
 have hn:=h.1
 obtain ⟨s,hs⟩:∃ s:Nat→ByteArray,s=fun i=>(D i).name:=⟨_,rfl⟩
 have HS:Hid (∀ i,(D i).name=s i):=Lib.hid fun i=>by rw [hs]
 rw [← hs]
 have hmm:=@run_makeMap Tryz.prog
 have HNM:=Lib.hid (nameCar_any)
 have H:=Lib.hid h
 clear h hs
 go_enter Tryz.func43,Tryz.ntmps43
 go_wp2_with fail
 go_loopw [14] (fun i wr=>∃ k:Nat,k≤n∧i=.int .i64 k∧Hid (∀ i,i<k→inB (s i).size 1 32=true∧∀ j,j<i→s j ≠ s i)∧Below w.heap.size w wr∧SetS wr w.heap.size ((List.range k).map s)) (fun i _=>n - (intOf i).toNat)
 case atStart=>exact ⟨0,Nat.zero_le _,rfl,Lib.hid fun j hj=>absurd hj (by omega),(Below.refl _ _).alloc (Nat.le_refl _) _,SetS.made w⟩
 case round =>
  obtain ⟨k,hk,rfl,hl,hb,hs⟩:=hrel
  by_cases hlt:k<n
  ·obtain ⟨b,off,rfl,hB,c0,c1,c2,c3,c4,c5⟩:=(H.out.below hb).at6 hlt
   dsimp only [cargoC] at c0 c1 c2 c3 c4 c5
   rw [HS.out k] at c0
   have hbs:=hs.lt
   have HST:=Lib.hid hs
   have HB:=Lib.hid hb
   clear hs hb
   go_wp2_with fail
   refine (HNM.out _ _ _ _ _ _ _).mono ?_
   rintro e w1 ⟨rfl,hb1⟩
   have hs1:SetS w1 w.heap.size ((List.range k).map s):=(HST.out.alloc _).below hb1 (by simp;omega)
   have hbb:Below w.heap.size w w1:=(HB.out.alloc HB.out.size _).trans (hb1.mono (by simp;omega))
   have HBB:=Lib.hid hbb
   clear hb1 hbb
   have hlook:=hs1.lookup (P:=Tryz.prog) Tryz.underlying108 Tryz.underlying9 (zero_bool w1) (s k)
   by_cases h1:inB (s k).size 1 32=true
   ·by_cases h2:s k ∈ (List.range k).map s
    ·have ha:(((List.range k).map s).any fun x=>decide (x=s k))=true:=by rw [List.any_eq_true];exact ⟨_,h2,by simp⟩
     rw [ha] at hlook
     have Hf:Hid (namedN n s most=false):=Lib.hid (by
      have:(allN n fun i=>inB (s i).size 1 32 && allN i fun j=>!decide (s j=s i))=false:=by
       unfold allN;rw [List.all_eq_false]
       simp only [List.mem_map,List.mem_range] at h2
       obtain ⟨j,hj,he⟩:=h2
       refine ⟨k,by simpa using hlt,?_⟩
       simp only [Bool.and_eq_true,h1,true_and,List.all_eq_true,List.mem_range]
       intro hc;have:=hc j hj;simp [he] at this
      unfold namedN;rw [this];rfl)
     clear ha h2 hl hs1
     go_wp2_with (go_at_call 46;refine (within_any _ _ _ _).mono ?_;rintro e w' ⟨rfl,rfl⟩)
     go_ret
     exact ⟨ret_bool Hf.out.symm,HBB.out⟩
    ·have ha:(((List.range k).map s).any fun x=>decide (x=s k))=false:=by rw [List.any_eq_false];intro x hx;simp;rintro rfl;exact h2 hx
     rw [ha] at hlook
     obtain ⟨w2,hupd,hs2,hz2,hb2⟩:=hs1.update (P:=Tryz.prog) Tryz.underlying108 Tryz.underlying9 (s k) h2
     have hb3:=hb2 w.heap.size (Nat.le_refl _)
     clear ha hs1 hb2
     have Hn:=Lib.hid h2;clear h2
     go_wp2_with (go_at_call 46;refine (within_any _ _ _ _).mono ?_;rintro e w' ⟨rfl,rfl⟩)
     go_roundw
     case rel =>
      refine ⟨k+1,by omega,by go_num,Lib.hid fun i hi=>?_,HBB.out.trans hb3,?_⟩
      ·by_cases e:i=k
       ·subst e
        refine ⟨h1,fun j hj he=>Hn.out ?_⟩
        rw [← he];exact List.mem_map.2 ⟨j,by simpa using hj,rfl⟩
       ·exact hl.out i (by omega)
      ·rw [List.range_succ,List.map_append];exact hs2
     case measure=>simp [intOf];omega
   ·have h1':inB (s k).size 1 32=false:=by simpa using h1
    have Hf:Hid (namedN n s most=false):=Lib.hid (by
     have:(allN n fun i=>inB (s i).size 1 32 && allN i fun j=>!decide (s j=s i))=false:=by
      unfold allN;rw [List.all_eq_false]
      exact ⟨k,by simpa using hlt,by simp [h1']⟩
     unfold namedN;rw [this];rfl)
    clear h1 hl hs1
    go_wp2_with (go_at_call 46;refine (within_any _ _ _ _).mono ?_;rintro e w' ⟨rfl,rfl⟩)
    go_ret
    exact ⟨ret_bool Hf.out.symm,HBB.out⟩
  ·obtain rfl:k=n:=by omega
   have Hf:Hid (namedN k s most=inB k 1 most):=Lib.hid (by
    have:(allN k fun i=>inB (s i).size 1 32 && allN i fun j=>!decide (s j=s i))=true:=by
     unfold allN;rw [List.all_eq_true]
     intro i hi
     have:=hl.out i (by simpa using hi)
     simp only [Bool.and_eq_true,this.1,true_and,List.all_eq_true,List.mem_range]
     intro j hj;simpa using this.2 j hj
    unfold namedN;rw [this];rfl)
   clear hl
   go_wp2_with (go_at_call 46;refine (within_any _ _ _ _).mono ?_;rintro e w' ⟨rfl,rfl⟩)
   go_ret
   exact ⟨ret_bool Hf.out.symm,hb⟩

set_option maxHeartbeats 400000 in
theorem negInt (w:World) (g:Nat) (lb:Array Value) (v0:Value) (r:Bool) (p:Nat) (eg:∀ args w,(callFunc g args).run Tryz.prog w=.ok (.enter g args) w)
  (hp:w.cell? ⟨p,0,none⟩=some (.func (.func g) #[] lb))
  (hq:∀ w',Below w.heap.size w w'→Calls Tryz.prog g (#[v0] ++ lb) w' fun e w''=>e=.returned (.bool r)∧Below w'.heap.size w' w'') :
  Calls Tryz.prog 122 #[v0,.pointer (some ⟨p,0,none⟩)] w fun e w'=>e=.returned (.bool (!r))∧Below w.heap.size w w':=by
 have HQ:=Lib.hid hq;clear hq
 have hlt:p<w.heap.size:=by
  rcases Nat.lt_or_ge p w.heap.size with h | h
  ·exact h
  ·simp [World.cell?,Array.getElem?_eq_none h] at hp
 go_enter Tryz.func122,Tryz.ntmps122
 go_wp2_with fail
 refine (HQ.out _ (Below.refl _ _)).mono ?_
 rintro e w' ⟨rfl,hb⟩
 go_wp2_with fail
 go_ret
 exact ⟨ret_bool rfl,(Below.refl _ _).trans (hb.mono (by simp))⟩

set_option maxHeartbeats 400000 in
theorem allInt (w:World) (A:Option Addr) (n c:Nat) (f:Nat→Nat→Value) (h:Sl w w.heap.size 1 A n f) (g:Nat) (lb:Array Value) (q:Nat→Bool)
  (eg:∀ args w,(callFunc g args).run Tryz.prog w=.ok (.enter g args) w)
  (hq:ClosAt Tryz.prog w g lb n (fun i=>f i 0) q) :
  Calls Tryz.prog 107 #[.slice A n c,.func (.func g) #[] lb] w fun e w'=>e=.returned (.bool (allN n q))∧Below w.heap.size w w':=by
 have hb0:∀ o,Below w.heap.size w (w.alloc o):=fun o=>(Below.refl _ _).alloc (Nat.le_refl _) _
 have HC:Hid (∀ t,Calls Tryz.prog 80 #[.slice A n c,.func (.func 122) #[] #[.pointer (some ⟨w.heap.size,0,none⟩)]] (w.alloc (.cells #[.func (.func g) #[] lb] t))
   fun e w'=>e=.returned (.bool (!(allN n fun i=>!!q i)))∧Below (w.alloc (.cells #[.func (.func g) #[] lb] t)).heap.size (w.alloc (.cells #[.func (.func g) #[] lb] t)) w'):=Lib.hid fun t=>by
  refine conInt _ A n c f ((h.below (hb0 _)).mono (by simp)) 122 _ (fun i=>!q i) (fun args w=>by kernel_rfl) ?_
  intro w' hw' i hi
  refine negInt w' g lb _  (q i) _ eg ?_ (fun w'' hw''=>hq w'' ((hb0 _).trans ((hw'.mono (by simp)).trans (hw''.mono (by have:=hw'.size;simp at this;omega)))) i hi)
  rw [hw'.cell (p:=⟨w.heap.size,0,none⟩) (by simp)]
  simp
 clear hq h eg
 go_enter Tryz.func107,Tryz.ntmps107
 go_wp2_with fail
 refine (HC.out _).mono ?_
 rintro e w' ⟨rfl,hb⟩
 go_wp2_with fail
 go_ret
 exact ⟨ret_bool (by simp),(hb0 _).trans (hb.mono (by simp))⟩
end Go.Proofs.YtcnjenlojnognaaGreat
/- What is proved: a contract of campaign.Check. Conditions: the campaign lies in memory. -/
namespace Go.Proofs.YtcnjenlojnognaaGreat
open Go.RowKit

set_option maxHeartbeats 1000000 in
theorem craftOk_any (w:World) (x:CraftD):Calls Tryz.prog 45 #[.agg #[.string x.name,.int .i64 x.lift,.int .i64 x.ready,.int .i64 x.again]] w fun e w'=>e=.returned (.bool (craftB x))∧Below w.heap.size w w':=by
 have HB:Hid (craftB x=(inB x.lift 0 1073741824 && inB x.ready 0 10000 && inB x.again 0 10000)):=Lib.hid rfl
 obtain ⟨R,hR⟩:∃ R,craftB x=R:=⟨_,rfl⟩
 rw [hR] at HB ⊢
 clear hR
 have H1:=Lib.hid fun w'=>within_any x.lift 0 1073741824 w'
 have H2:=Lib.hid fun w'=>within_any x.ready 0 10000 w'
 have H3:=Lib.hid fun w'=>within_any x.again 0 10000 w'
 have hb0:∀ o,Below w.heap.size w (w.alloc o):=fun o=>(Below.refl _ _).alloc (Nat.le_refl _) _
 cases h1:inB x.lift 0 1073741824 with
 | false =>
  rw [h1] at HB H1
  clear h1
  go_enter Tryz.func45,Tryz.ntmps45
  go_wp2_with fail
  refine (H1.out _).mono ?_
  rintro e w' ⟨rfl,rfl⟩
  go_wp2_with fail
  go_ret
  exact ⟨ret_bool (by rw [HB.out];simp),hb0 _⟩
 | true =>
 cases h2:inB x.ready 0 10000 with
 | false =>
  rw [h1,h2] at HB
  rw [h1] at H1
  rw [h2] at H2
  clear h1 h2
  go_enter Tryz.func45,Tryz.ntmps45
  go_wp2_with fail
  refine (H1.out _).mono ?_
  rintro e w' ⟨rfl,rfl⟩
  go_wp2_with fail
  refine (H2.out _).mono ?_
  rintro e w' ⟨rfl,rfl⟩
  go_wp2_with fail
  go_ret
  exact ⟨ret_bool (by rw [HB.out];simp),hb0 _⟩
 | true =>
 obtain ⟨b3,h3⟩:∃ b,inB x.again 0 10000=b:=⟨_,rfl⟩
 rw [h1,h2,h3] at HB
 rw [h1] at H1
 rw [h2] at H2
 rw [h3] at H3
 clear h1 h2 h3
 go_enter Tryz.func45,Tryz.ntmps45
 go_wp2_with fail
 refine (H1.out _).mono ?_
 rintro e w' ⟨rfl,rfl⟩
 go_wp2_with fail
 refine (H2.out _).mono ?_
 rintro e w' ⟨rfl,rfl⟩
 go_wp2_with fail
 refine (H3.out _).mono ?_
 rintro e w' ⟨rfl,rfl⟩
 go_wp2_with fail
 go_ret
 exact ⟨ret_bool (by rw [HB.out];simp),hb0 _⟩
set_option maxHeartbeats 1000000 in
theorem padOk_any (w:World) (x:PadD) (A:Option Addr) (c:Nat) (bp:Nat) (B:Option Addr) (n k:Nat) (_hn:n≤9223372036854775807) (h:IntsAt w w.heap.size A x.takes) (hp:w.cell? ⟨bp,0,none⟩=some (.slice B n k)) (hlt:bp<w.heap.size) :
  Calls Tryz.prog 47 #[.agg #[.string x.name,.int .i64 x.clean,.slice A x.takes.length c],.pointer (some ⟨bp,0,none⟩)] w fun e w'=>e=.returned (.bool (padB n x))∧Below w.heap.size w w':=by
 have HB:Hid (padB n x=(inB x.clean 0 10000 && risingB x.takes n)):=Lib.hid rfl
 obtain ⟨R,hR⟩:∃ R,padB n x=R:=⟨_,rfl⟩
 rw [hR] at HB ⊢
 clear hR
 have H1:=Lib.hid fun w'=>within_any x.clean 0 10000 w'
 have hb0:∀ o,Below w.heap.size w (w.alloc o):=fun o=>(Below.refl _ _).alloc (Nat.le_refl _) _
 have H2:=Lib.hid fun o=>rising_any (w.alloc o) A c x.takes n (h.later (hb0 o))
 have hll:x.takes.length≤9223372036854775807:=h.1
 clear h
 cases h1:inB x.clean 0 10000 with
 | false =>
  rw [h1] at HB H1
  clear h1
  go_enter Tryz.func47,Tryz.ntmps47
  go_wp2_with fail
  refine (H1.out _).mono ?_
  rintro e w' ⟨rfl,rfl⟩
  go_wp2_with fail
  go_ret
  exact ⟨ret_bool (by rw [HB.out];simp),hb0 _⟩
 | true =>
  obtain ⟨b,h2⟩:∃ b,risingB x.takes n=b:=⟨_,rfl⟩
  rw [h1,h2] at HB
  rw [h1] at H1
  rw [h2] at H2
  clear h1 h2
  go_enter Tryz.func47,Tryz.ntmps47
  go_wp2_with fail
  refine (H1.out _).mono ?_
  rintro e w' ⟨rfl,rfl⟩
  go_wp2_with fail
  refine (H2.out _).mono ?_
  rintro e w' ⟨rfl,rfl⟩
  go_wp2_with fail
  go_ret
  exact ⟨ret_bool (by rw [HB.out];simp),hb0 _⟩
set_option maxHeartbeats 1000000 in
theorem cargoOk_any (w:World) (x:CargoD):Calls Tryz.prog 49 #[.agg #[.string x.name,.int .i64 x.mass,.int .i64 x.value,.int .i64 x.frm,.int .i64 x.to,.bool x.must]] w fun e w'=>e=.returned (.bool (cargoB x))∧Below w.heap.size w w':=by
 have HB:Hid (cargoB x=(inB x.mass 0 1073741824 && inB x.value 0 1073741824 && inB x.frm 0 x.to && decide (x.to≤10000))):=Lib.hid rfl
 obtain ⟨R,hR⟩:∃ R,cargoB x=R:=⟨_,rfl⟩
 rw [hR] at HB ⊢
 clear hR
 have H1:=Lib.hid fun w'=>within_any x.mass 0 1073741824 w'
 have H2:=Lib.hid fun w'=>within_any x.value 0 1073741824 w'
 have H3:=Lib.hid fun w'=>within_any x.frm 0 x.to w'
 have hb0:∀ o,Below w.heap.size w (w.alloc o):=fun o=>(Below.refl _ _).alloc (Nat.le_refl _) _
 cases h1:inB x.mass 0 1073741824 with
 | false =>
  rw [h1] at HB H1
  clear h1
  go_enter Tryz.func49,Tryz.ntmps49
  go_wp2_with fail
  refine (H1.out _).mono ?_
  rintro e w' ⟨rfl,rfl⟩
  go_wp2_with fail
  go_ret
  exact ⟨ret_bool (by rw [HB.out];simp),hb0 _⟩
 | true =>
 cases h2:inB x.value 0 1073741824 with
 | false =>
  rw [h1,h2] at HB
  rw [h1] at H1
  rw [h2] at H2
  clear h1 h2
  go_enter Tryz.func49,Tryz.ntmps49
  go_wp2_with fail
  refine (H1.out _).mono ?_
  rintro e w' ⟨rfl,rfl⟩
  go_wp2_with fail
  refine (H2.out _).mono ?_
  rintro e w' ⟨rfl,rfl⟩
  go_wp2_with fail
  go_ret
  exact ⟨ret_bool (by rw [HB.out];simp),hb0 _⟩
 | true =>
 cases h3:inB x.frm 0 x.to with
 | false =>
  rw [h1,h2,h3] at HB
  rw [h1] at H1
  rw [h2] at H2
  rw [h3] at H3
  clear h1 h2 h3
  go_enter Tryz.func49,Tryz.ntmps49
  go_wp2_with fail
  refine (H1.out _).mono ?_
  rintro e w' ⟨rfl,rfl⟩
  go_wp2_with fail
  refine (H2.out _).mono ?_
  rintro e w' ⟨rfl,rfl⟩
  go_wp2_with fail
  refine (H3.out _).mono ?_
  rintro e w' ⟨rfl,rfl⟩
  go_wp2_with fail
  go_ret
  exact ⟨ret_bool (by rw [HB.out];simp),hb0 _⟩
 | true =>
 obtain ⟨b4,h4⟩:∃ b,decide (x.to≤10000)=b:=⟨_,rfl⟩
 rw [h1,h2,h3,h4] at HB
 rw [h1] at H1
 rw [h2] at H2
 rw [h3] at H3
 clear h1 h2 h3
 go_enter Tryz.func49,Tryz.ntmps49
 go_wp2_with fail
 refine (H1.out _).mono ?_
 rintro e w' ⟨rfl,rfl⟩
 go_wp2_with fail
 refine (H2.out _).mono ?_
 rintro e w' ⟨rfl,rfl⟩
 go_wp2_with fail
 refine (H3.out _).mono ?_
 rintro e w' ⟨rfl,rfl⟩
 go_wp2_with fail
 go_ret
 exact ⟨ret_bool (by rw [HB.out];simp),hb0 _⟩
end Go.Proofs.YtcnjenlojnognaaGreat
/- What is proved: a contract of campaign.Check. Conditions: the campaign lies in memory. -/
namespace Go.Proofs.YtcnjenlojnognaaGreat
open Go.RowKit

theorem namedN_names {α:Type} (l:List α) (nm:α→ByteArray) (d:α) (most:Int):namedN l.length (fun i=>nm (l.getD i d)) most=(namesB (l.map nm) && inB l.length 1 most):=by
 unfold namedN namesB
 congr 1
 rw [List.length_map]
 have e:∀ i,i<l.length→nm (l.getD i d)=(l.map nm).getD i ⟨#[]⟩:=fun i hi=>by
  rw [List.getD_eq_getElem?_getD,List.getD_eq_getElem?_getD,List.getElem?_map,List.getElem?_eq_getElem hi];rfl
 rw [Bool.eq_iff_iff,allN_iff,allN_iff]
 constructor
 ·intro h i hi
  have h1:=h i hi
  rw [Bool.and_eq_true,allN_iff] at h1 ⊢
  rw [← e i hi]
  refine ⟨h1.1,fun j hj=>?_⟩
  have h2:=h1.2 j hj
  rw [← e j (by omega)]
  simpa using h2
 ·intro h i hi
  have h1:=h i hi
  rw [Bool.and_eq_true,allN_iff] at h1 ⊢
  rw [← e i hi] at h1
  refine ⟨h1.1,fun j hj=>?_⟩
  have h2:=h1.2 j hj
  rw [← e j (by omega)] at h2
  simpa using h2
theorem allN_list {α:Type} (l:List α) (q:α→Bool) (d:α):(allN l.length fun i=>q (l.getD i d))=l.all q:=by
 rw [Bool.eq_iff_iff,allN_iff,List.all_eq_true]
 constructor
 ·intro h x hx
  obtain ⟨i,hi,e⟩:=List.getElem_of_mem hx
  have:=h i hi
  rwa [List.getD_eq_getElem?_getD,List.getElem?_eq_getElem hi,Option.getD_some,e] at this
 ·intro h i hi
  rw [List.getD_eq_getElem?_getD,List.getElem?_eq_getElem hi,Option.getD_some]
  exact h _ (List.getElem_mem hi)
/-- The program's order of the tests. -/
theorem campB_prog (c:CampD):campB c=(namedN c.crafts.length (fun i=>(c.craftN i).name) 3 && namedN c.pads.length (fun i=>(c.padN i).name) 2 && namedN c.cargos.length (fun i=>(c.cargoN i).name) 6 &&
  ((allN c.crafts.length fun i=>craftB (c.craftN i)) && (allN c.pads.length fun i=>padB c.crafts.length (c.padN i)) && (allN c.cargos.length fun i=>cargoB (c.cargoN i)) && inB c.margin 0 1000)):=by
 have e1:namedN c.crafts.length (fun i=>(c.craftN i).name) 3=_:=namedN_names c.crafts (·.name) craft0 3
 have e2:namedN c.pads.length (fun i=>(c.padN i).name) 2=_:=namedN_names c.pads (·.name) pad0 2
 have e3:namedN c.cargos.length (fun i=>(c.cargoN i).name) 6=_:=namedN_names c.cargos (·.name) cargo0 6
 have e4:(allN c.crafts.length fun i=>craftB (c.craftN i))=_:=allN_list c.crafts craftB craft0
 have e5:(allN c.pads.length fun i=>padB c.crafts.length (c.padN i))=_:=allN_list c.pads (padB c.crafts.length) pad0
 have e6:(allN c.cargos.length fun i=>cargoB (c.cargoN i))=_:=allN_list c.cargos cargoB cargo0
 rw [e1,e2,e3,e4,e5,e6]
 unfold campB
 ac_rfl

set_option maxRecDepth 100000 in
set_option maxHeartbeats 4000000 in
theorem check_any (w:World) (V:CV) (c:CampD) (h:CampAt w w.heap.size V c) :
  Calls Tryz.prog 18 #[.agg (campA V c)] w fun e w'=>e=.returned (.bool (campB c))∧Below w.heap.size w w':=by
 have HP:=Lib.hid fun (w1:World) (hb:Below w.heap.size w w1)=>(h.below hb).mono hb.size
 have hb0:∀ o,Below w.heap.size w (w.alloc o):=fun o=>(Below.refl _ _).alloc (Nat.le_refl _) _
 have hn1:c.crafts.length≤9223372036854775807:=h.crafts.1
 have hc:∀ (w1:World),Below (w.heap.size+1) (w.alloc (.cells (campA V c) 26)) w1→w1.cell? ⟨w.heap.size,0,none⟩=some (.slice V.cA c.crafts.length V.cc)∧w1.cell? ⟨w.heap.size,1,none⟩=some (.slice V.pA c.pads.length V.pc)∧w1.cell? ⟨w.heap.size,2,none⟩=some (.slice V.gA c.cargos.length V.gc)∧w1.cell? ⟨w.heap.size,3,none⟩=some (.int .i64 c.margin):=fun w1 hb=>by
  have:=(Bk.new w 26 (campA V c)).below hb (by omega)
  exact ⟨this.cell 0,this.cell 1,this.cell 2,this.cell 3⟩
 have HC:=Lib.hid hc
 clear hc h
 have HPB:=Lib.hid (campB_prog c)
 obtain ⟨R,hR⟩:∃ R,campB c=R:=⟨_,rfl⟩
 rw [hR] at HPB ⊢
 clear hR
 obtain ⟨N1,h1⟩:∃ b,namedN c.crafts.length (fun i=>(c.craftN i).name) 3=b:=⟨_,rfl⟩
 obtain ⟨N2,h2⟩:∃ b,namedN c.pads.length (fun i=>(c.padN i).name) 2=b:=⟨_,rfl⟩
 obtain ⟨N3,h3⟩:∃ b,namedN c.cargos.length (fun i=>(c.cargoN i).name) 6=b:=⟨_,rfl⟩
 obtain ⟨N4,h4⟩:∃ b,(allN c.crafts.length fun i=>craftB (c.craftN i))=b:=⟨_,rfl⟩
 obtain ⟨N5,h5⟩:∃ b,(allN c.pads.length fun i=>padB c.crafts.length (c.padN i))=b:=⟨_,rfl⟩
 obtain ⟨N6,h6⟩:∃ b,(allN c.cargos.length fun i=>cargoB (c.cargoN i))=b:=⟨_,rfl⟩
 obtain ⟨N7,h7⟩:∃ b,inB c.margin 0 1000=b:=⟨_,rfl⟩
 have HQ1:Hid (∀ w1,Below w.heap.size w w1→Calls Tryz.prog 39 #[.slice V.cA c.crafts.length V.cc,.int .i64 3,.func (.func 40) #[] #[]] w1 fun e w'=>e=.returned (.bool N1)∧Below w1.heap.size w1 w'):=Lib.hid fun w1 hb=>by
  rw [← h1];exact namedCra_any w1 V.cA _ V.cc c.craftN 3 (HP.out w1 hb).crafts
 have HQ2:Hid (∀ w1,Below w.heap.size w w1→Calls Tryz.prog 41 #[.slice V.pA c.pads.length V.pc,.int .i64 2,.func (.func 42) #[] #[]] w1 fun e w'=>e=.returned (.bool N2)∧Below w1.heap.size w1 w'):=Lib.hid fun w1 hb=>by
  rw [← h2];exact namedPad_any w1 V.pA _ V.pc c.padN V.tA V.tc 2 (HP.out w1 hb).pads
 have HQ3:Hid (∀ w1,Below w.heap.size w w1→Calls Tryz.prog 43 #[.slice V.gA c.cargos.length V.gc,.int .i64 6,.func (.func 44) #[] #[]] w1 fun e w'=>e=.returned (.bool N3)∧Below w1.heap.size w1 w'):=Lib.hid fun w1 hb=>by
  rw [← h3];exact namedCar_any w1 V.gA _ V.gc c.cargoN 6 (HP.out w1 hb).cargos
 have HQ4:Hid (∀ w1,Below w.heap.size w w1→Calls Tryz.prog 50 #[.slice V.cA c.crafts.length V.cc,.func (.func 45) #[] #[]] w1 fun e w'=>e=.returned (.bool N4)∧Below w1.heap.size w1 w'):=Lib.hid fun w1 hb=>by
  rw [← h4];exact allCra w1 V.cA _ V.cc _ (HP.out w1 hb).crafts 45 #[] (fun i=>craftB (c.craftN i)) (fun args w=>by kernel_rfl) (fun w2 _ i _=>craftOk_any w2 (c.craftN i))
 have HQ5:Hid (∀ w1,Below w.heap.size w w1→Below (w.heap.size+1) (w.alloc (.cells (campA V c) 26)) w1→Calls Tryz.prog 51 #[.slice V.pA c.pads.length V.pc,.func (.func 47) #[] #[.pointer (some ⟨w.heap.size,0,none⟩)]] w1 fun e w'=>e=.returned (.bool N5)∧Below w1.heap.size w1 w'):=Lib.hid fun w1 hb hb2=>by
  have hs2:w.heap.size+1≤w1.heap.size:=by have:=hb2.size;simpa using this
  rw [← h5];exact allPad w1 V.pA _ V.pc _ (HP.out w1 hb).pads 47 #[.pointer (some ⟨w.heap.size,0,none⟩)] (fun i=>padB c.crafts.length (c.padN i)) (fun args w=>by kernel_rfl) (fun w2 hw2 i hi =>
   padOk_any w2 (c.padN i) (V.tA i) (V.tc i) w.heap.size V.cA c.crafts.length V.cc hn1 (((HP.out w1 hb).takes i hi).later hw2) (HC.out w2 (hb2.trans (hw2.mono hs2))).1 (by have:=hw2.size;omega))
 have HQ6:Hid (∀ w1,Below w.heap.size w w1→Calls Tryz.prog 52 #[.slice V.gA c.cargos.length V.gc,.func (.func 49) #[] #[]] w1 fun e w'=>e=.returned (.bool N6)∧Below w1.heap.size w1 w'):=Lib.hid fun w1 hb=>by
  rw [← h6];exact allCar w1 V.gA _ V.gc _ (HP.out w1 hb).cargos 49 #[] (fun i=>cargoB (c.cargoN i)) (fun args w=>by kernel_rfl) (fun w2 _ i _=>cargoOk_any w2 (c.cargoN i))
 have HQ7:Hid (∀ w',Calls Tryz.prog 46 #[.int .i64 c.margin,.int .i64 0,.int .i64 1000] w' fun e w''=>e=.returned (.bool N7)∧w'=w''):=Lib.hid fun w'=>by
  rw [← h7];exact within_any _ _ _ _
 rw [h1,h2,h3,h4,h5,h6,h7] at HPB
 clear h1 h2 h3 h4 h5 h6 h7 HP
 simp only [campA] at HC HQ5 ⊢
 go_enter Tryz.func18,Tryz.ntmps18
 go_wp2_with fail
 obtain ⟨W,hW⟩:∃ W,W=w.alloc (.cells #[.slice V.cA c.crafts.length V.cc,.slice V.pA c.pads.length V.pc,.slice V.gA c.cargos.length V.gc,.int .i64 c.margin] 26):=⟨_,rfl⟩
 have hbW:Below w.heap.size w W:=by rw [hW];exact hb0 _
 have hWs:W.heap.size=w.heap.size+1:=by rw [hW];simp
 rw [← hW] at HC HQ5 ⊢
 have HW:=Lib.hid hW
 clear hW
 refine (HQ1.out W hbW).mono ?_
 rintro e w1 ⟨rfl,hb1⟩
 have hWw1:=hb1
 have hbw1:=hbW.trans (hb1.mono hbW.size)
 clear hb1
 obtain ⟨c0,c1,c2,c3⟩:=HC.out w1 (hWw1.mono (by omega))
 cases N1 with
 | false =>
  go_wp2_with fail
  go_ret
  exact ⟨ret_bool (by rw [HPB.out];rfl),hbw1⟩
 | true =>
 go_wp2_with fail
 refine (HQ2.out w1 hbw1).mono ?_
 clear c0 c1 c2 c3
 rintro e w2 ⟨rfl,hb2⟩
 have hWw2:=hWw1.trans (hb2.mono hWw1.size)
 have hbw2:=hbw1.trans (hb2.mono hbw1.size)
 clear hb2 hWw1 hbw1
 obtain ⟨c0,c1,c2,c3⟩:=HC.out w2 (hWw2.mono (by omega))
 cases N2 with
 | false =>
  go_wp2_with fail
  go_ret
  exact ⟨ret_bool (by rw [HPB.out];rfl),hbw2⟩
 | true =>
 go_wp2_with fail
 refine (HQ3.out w2 hbw2).mono ?_
 clear c0 c1 c2 c3
 rintro e w3 ⟨rfl,hb3⟩
 have hWw3:=hWw2.trans (hb3.mono hWw2.size)
 have hbw3:=hbw2.trans (hb3.mono hbw2.size)
 clear hb3 hWw2 hbw2
 obtain ⟨c0,c1,c2,c3⟩:=HC.out w3 (hWw3.mono (by omega))
 cases N3 with
 | false =>
  go_wp2_with fail
  go_ret
  exact ⟨ret_bool (by rw [HPB.out];rfl),hbw3⟩
 | true =>
 go_wp2_with fail
 refine (HQ4.out w3 hbw3).mono ?_
 clear c0 c1 c2 c3
 rintro e w4 ⟨rfl,hb4⟩
 have hWw4:=hWw3.trans (hb4.mono hWw3.size)
 have hbw4:=hbw3.trans (hb4.mono hbw3.size)
 clear hb4 hWw3 hbw3
 obtain ⟨c0,c1,c2,c3⟩:=HC.out w4 (hWw4.mono (by omega))
 cases N4 with
 | false =>
  go_wp2_with fail
  go_ret
  exact ⟨ret_bool (by rw [HPB.out];rfl),hbw4⟩
 | true =>
 go_wp2_with fail
 refine (HQ5.out w4 hbw4 (hWw4.mono (by omega))).mono ?_
 clear c0 c1 c2 c3
 rintro e w5 ⟨rfl,hb5⟩
 have hWw5:=hWw4.trans (hb5.mono hWw4.size)
 have hbw5:=hbw4.trans (hb5.mono hbw4.size)
 clear hb5 hWw4 hbw4
 obtain ⟨c0,c1,c2,c3⟩:=HC.out w5 (hWw5.mono (by omega))
 cases N5 with
 | false =>
  go_wp2_with fail
  go_ret
  exact ⟨ret_bool (by rw [HPB.out];rfl),hbw5⟩
 | true =>
 go_wp2_with fail
 refine (HQ6.out w5 hbw5).mono ?_
 clear c0 c1 c2 c3
 rintro e w6 ⟨rfl,hb6⟩
 have hWw6:=hWw5.trans (hb6.mono hWw5.size)
 have hbw6:=hbw5.trans (hb6.mono hbw5.size)
 clear hb6 hWw5 hbw5
 obtain ⟨c0,c1,c2,c3⟩:=HC.out w6 (hWw6.mono (by omega))
 cases N6 with
 | false =>
  go_wp2_with fail
  go_ret
  exact ⟨ret_bool (by rw [HPB.out];rfl),hbw6⟩
 | true =>
 go_wp2_with fail
 refine (HQ7.out w6).mono ?_
 rintro e w7 ⟨rfl,rfl⟩
 go_wp2_with fail
 go_ret
 exact ⟨ret_bool (by rw [HPB.out];simp),hbw6⟩
end Go.Proofs.YtcnjenlojnognaaGreat
/- What is proved: contracts of slices.Index, slices.Contains at int, of campaign.mass and campaign.most. Conditions: the lists lie in memory; the campaign is valid. -/
namespace Go.Proofs.YtcnjenlojnognaaGreat
open Go.RowKit

theorem contains_iff_has (l:List Int) (x:Int):l.contains x=!(allN l.length fun i=>!decide (numI l i=x)):=by
 rw [Bool.eq_iff_iff,List.contains_iff_mem,Bool.not_eq_true',← Bool.not_eq_true,allN_iff]
 constructor
 ·intro h hh
  obtain ⟨i,hi,e⟩:=List.getElem_of_mem h
  have:=hh i hi
  unfold numI at this
  rw [List.getD_eq_getElem?_getD,List.getElem?_eq_getElem hi,Option.getD_some,e] at this
  simp at this
 ·intro h
  apply Classical.byContradiction
  intro hn
  apply h
  intro i hi
  rw [Bool.not_eq_true',decide_eq_false_iff_not]
  intro e
  apply hn
  unfold numI at e
  rw [List.getD_eq_getElem?_getD,List.getElem?_eq_getElem hi,Option.getD_some] at e
  rw [← e];exact List.getElem_mem hi
set_option maxRecDepth 100000 in
set_option maxHeartbeats 4000000 in
theorem index_any (w:World) (A:Option Addr) (c:Nat) (l:List Int) (x:Int) (h:IntsAt w w.heap.size A l) :
  Calls Tryz.prog 94 #[.slice A l.length c,.int .i64 x] w fun e w'=>∃ r:Int,e=.returned (.int .i64 r)∧decide (0≤r)=l.contains x∧w'=w:=by
 have HL:=Lib.hid h
 have hll:=h.1
 obtain ⟨n,hn⟩:∃ n,l.length=n:=⟨_,rfl⟩
 have HN:=Lib.hid hn
 have HD:Hid (l.contains x=!(allN n fun i=>!decide (numI l i=x))):=Lib.hid (by rw [contains_iff_has,hn])
 obtain ⟨R,hR⟩:∃ R,l.contains x=R:=⟨_,rfl⟩
 have HFIN:Hid (∀ (r:Int) (e:Ending) (w':World),decide (0≤r)=R→e=.returned (.int .i64 r)→w'=w→∃ r:Int,e=.returned (.int .i64 r)∧decide (0≤r)=R∧w'=w):=Lib.hid fun r _ _ h a b=>⟨r,a,h,b⟩
 rw [hn] at hll ⊢
 rw [hR] at HD ⊢
 clear h hn hR
 go_enter Tryz.func94,Tryz.ntmps94
 go_wp2_with fail
 go_loopw [8] (fun i wr=>∃ k:Nat,k≤n∧i=.int .i64 k∧Hid (wr=w∧(∀ j,j<k→¬ numI l j=x))) (fun i _=>n - (intOf i).toNat)
 case atStart=>exact ⟨0,Nat.zero_le _,rfl,Lib.hid ⟨rfl,fun j hj=>absurd hj (Nat.not_lt_zero j)⟩⟩
 case round =>
  obtain ⟨k,hk,rfl,hs⟩:=hrel
  obtain ⟨hw,hno⟩:=hs.out
  subst hw
  have HNO:=Lib.hid hno
  clear hno hs
  by_cases hlt:k<n
  ·have hki:(k:Int)<(n:Int):=by omega
   have h0k:(0:Int)≤(k:Int):=by omega
   have hkt:k<l.length:=by rw [HN.out];exact hlt
   obtain ⟨bb,off,rfl,_,d0⟩:=Sl.at1 HL.out hkt
   obtain ⟨y,hy⟩:∃ y,numI l k=y:=⟨_,rfl⟩
   have HY:=Lib.hid hy
   try dsimp only at d0
   rw [hy] at d0
   clear hy
   by_cases he:y=x
   ·have HR:Hid (R=true):=Lib.hid (by
     rw [HD.out]
     cases ha:allN n fun i=>!decide (numI l i=x) with
     | false=>rfl
     | true =>
      have:=allN_iff.1 ha k hlt
      rw [HY.out] at this
      simp [he] at this)
    subst he
    go_wp2_with fail
    go_ret
    exact HFIN.out (k:Int) _ _ (by rw [HR.out];exact decide_eq_true (by omega)) rfl rfl
   ·have HE:=Lib.hid he
    have he1:(x == y)=false:=by rw [beq_eq_false_iff_ne];exact fun h=>he h.symm
    have he2:¬ x=y:=fun h=>he h.symm
    go_wp2_with fail
    go_roundw
    case rel=>exact ⟨k+1,by omega,by go_num,Lib.hid ⟨by first | exact trivial | rfl,fun j hj=>by
     by_cases e:j=k
     ·subst e;rw [HY.out];exact HE.out
     ·exact HNO.out j (by omega)⟩⟩
    case measure=>simp [intOf];omega
  ·obtain rfl:k=n:=by omega
   have HR:Hid (R=false):=Lib.hid (by
    rw [HD.out,allN_iff.2 fun i hi=>by simpa using HNO.out i hi];rfl)
   go_wp2_with fail
   go_ret
   exact HFIN.out (-1) _ _ (by rw [HR.out];rfl) rfl rfl

set_option maxRecDepth 100000 in
theorem contains_any (w:World) (A:Option Addr) (c:Nat) (l:List Int) (x:Int) (h:IntsAt w w.heap.size A l) :
  Calls Tryz.prog 59 #[.slice A l.length c,.int .i64 x] w fun e w'=>e=.returned (.bool (l.contains x))∧w'=w:=by
 have H:=Lib.hid (index_any w A c l x h)
 clear h
 go_enter Tryz.func59,Tryz.ntmps59
 go_wp2_with fail
 refine H.out.mono ?_
 rintro e w' ⟨r,rfl,hr,rfl⟩
 have HR:=Lib.hid hr
 clear hr
 go_wp2_with fail
 go_ret
 exact ⟨ret_bool (by simpa using HR.out),rfl⟩

theorem massL_take (c:CampD) (l:List Int) (k:Nat) (hk:k<l.length):massL c (l.take (k+1))=massL c (l.take k)+(c.cargo (numI l k)).mass:=by
 rw [List.take_succ_eq_append_getElem hk]
 unfold massL
 rw [List.foldl_append]
 unfold numI
 rw [List.getD_eq_getElem?_getD,List.getElem?_eq_getElem hk];rfl
theorem massL_bound {c:CampD} (hc:campB c=true) (l:List Int):∀ k,k≤l.length→0≤massL c (l.take k)∧massL c (l.take k)≤k * 1073741824
 | 0,_=>by simp [massL]
 | k+1,hk=>by
  have h1:=massL_bound hc l k (by omega)
  have h2:=camp_cargo hc (numI l k)
  rw [massL_take c l k (by omega)]
  omega
theorem rise_len {l:List Int} {n:Nat} (h:risingB l n=true):l.length≤n:=by
 have key:∀ k,k<l.length→(k:Int)≤numI l k:=by
  intro k hk
  unfold risingB at h
  rw [allN_iff] at h
  induction k with
  | zero =>
   have:=h 0 hk
   rw [Bool.and_eq_true,inB_iff] at this
   omega
  | succ k ih =>
   have h1:=ih (by omega)
   have:=h (k+1) hk
   rw [Bool.and_eq_true,inB_iff,Bool.or_eq_true,decide_eq_true_eq,decide_eq_true_eq] at this
   rcases this.2 with h2 | h2
   ·omega
   ·simp only [Nat.add_sub_cancel] at h2;omega
 by_cases h0:l.length=0
 ·omega
 ·have h1:=key (l.length - 1) (by omega)
  unfold risingB at h
  rw [allN_iff] at h
  have:=h (l.length - 1) (by omega)
  rw [Bool.and_eq_true,inB_iff] at this
  omega
theorem rise_num {l:List Int} {n:Int} (h:risingB l n=true) {k:Nat} (hk:k<l.length):∃ m:Nat,numI l k=(m:Int)∧(m:Int)<n:=by
 unfold risingB at h
 rw [allN_iff] at h
 have:=h k hk
 rw [Bool.and_eq_true,inB_iff] at this
 exact ⟨(numI l k).toNat,by omega,by omega⟩
set_option maxRecDepth 100000 in
set_option maxHeartbeats 4000000 in
theorem mass_any (w:World) (V:CV) (c:CampD) (h:CampAt w w.heap.size V c) (hc:campB c=true) (A:Option Addr) (cl:Nat) (l:List Int) (hl:IntsAt w w.heap.size A l) (hr:risingB l c.cargos.length=true) :
  Calls Tryz.prog 63 #[.agg (campA V c),.slice A l.length cl] w fun e w'=>e=.returned (.int .i64 (massL c l))∧Below w.heap.size w w':=by
 have hn6:=(camp_len hc).2.2.2.2.2.1
 have hlen:=rise_len hr
 have HB:=Lib.hid (massL_bound hc l)
 have HT:=Lib.hid (massL_take c l)
 have HRN:=Lib.hid fun (k:Nat) (hk:k<l.length)=>rise_num hr hk
 have HCC:=Lib.hid fun i=>camp_cargo hc i
 have hb0:Below w.heap.size w (w.alloc (.cells (campA V c) 26)):=(Below.refl _ _).alloc (Nat.le_refl _) _
 have HK:Hid (Bk (w.alloc (.cells (campA V c) 26)) w.heap.size 26 (campA V c)):=Lib.hid (Bk.new _ _ _)
 have HG:=Lib.hid (h.cargos.below hb0)
 have HL:=Lib.hid (Sl.below hl hb0)
 obtain ⟨n,hn⟩:∃ n,l.length=n:=⟨_,rfl⟩
 have HN:=Lib.hid hn
 obtain ⟨R,hR⟩:∃ R,massL c l=R:=⟨_,rfl⟩
 have HR:Hid (massL c (l.take n)=R):=Lib.hid (by rw [← hn,List.take_length];exact hR)
 have HB0:=Lib.hid hb0
 obtain ⟨ng,hng⟩:∃ ng,c.cargos.length=ng:=⟨_,rfl⟩
 simp only [campA] at HK HB0 HG HL ⊢
 rw [hng] at HK HB0 HG HL HRN ⊢
 rw [hn,hR]
 have hn6':n≤6:=by omega
 have hng6:ng≤6:=by omega
 clear h hl hr hc hb0 hn hR hlen hn6 hng
 go_enter Tryz.func63,Tryz.ntmps63
 go_wp2_with fail
 obtain ⟨W,hW⟩:∃ W,W=w.alloc (.cells #[.slice V.cA c.crafts.length V.cc,.slice V.pA c.pads.length V.pc,.slice V.gA ng V.gc,.int .i64 c.margin] 26):=⟨_,rfl⟩
 rw [← hW] at HK HB0 HG HL ⊢
 clear hW
 have c2:W.cell? ⟨w.heap.size,2,none⟩=some (.slice V.gA ng V.gc):=HK.out.cell 2
 go_loop [5,10] (fun v i=>∃ (k:Nat) (u:Int),k≤n∧i=.int .i64 k∧v=.int .i64 u∧Hid (u=massL c (l.take k))) (fun _ i=>n - (intOf i).toNat)
 case atStart=>exact ⟨0,0,Nat.zero_le _,rfl,rfl,Lib.hid rfl⟩
 case round =>
  obtain ⟨k,u,hk,rfl,rfl,hu⟩:=hrel
  have hb:=HB.out k (by rw [HN.out];exact hk)
  rw [← hu.out] at hb
  obtain ⟨hu0,hu1⟩:=hb
  have hu2:u≤6442450944:=by omega
  clear hu1
  by_cases hlt:k<n
  ·have hki:(k:Int)<(n:Int):=by omega
   have h0k:(0:Int)≤(k:Int):=by omega
   have hkt:k<l.length:=by rw [HN.out];exact hlt
   obtain ⟨bb,off,rfl,_,d0⟩:=Sl.at1 HL.out hkt
   obtain ⟨m,hm,hmn⟩:=HRN.out k hkt
   have hT:=HT.out k hkt
   try dsimp only at d0
   rw [hm] at d0 hT
   obtain ⟨gb,go,hga,_,_,g1,_⟩:=Sl.at6 HG.out (i:=m) (by omega)
   rw [hga] at c2
   dsimp only [cargoC] at g1
   obtain ⟨y,hy⟩:∃ y,(c.cargoN m).mass=y:=⟨_,rfl⟩
   have hy2:(c.cargo (m:Int)).mass=y:=hy
   rw [hy] at g1
   have hcc:=HCC.out (m:Int)
   rw [hy2] at hcc hT
   obtain ⟨y0,y1,_⟩:=hcc
   have HTK:Hid (u+y=massL c (l.take (k+1))):=Lib.hid (by rw [hT,hu.out])
   have hm0:(0:Int)≤(m:Int):=by omega
   clear hy hy2 hT hm hga
   go_wp2_with fail
   go_round
   case rel=>exact ⟨k+1,u+y,by omega,by go_num,rfl,HTK⟩
   case measure=>simp [intOf];omega
  ·obtain rfl:k=n:=by omega
   have HU:Hid (u=R):=Lib.hid (by rw [hu.out];exact HR.out)
   go_wp2_with fail
   go_ret
   exact ⟨ret_int HU.out,HB0.out⟩
set_option maxRecDepth 100000 in
set_option maxHeartbeats 4000000 in
theorem most_any (w:World) (V:CV) (c:CampD) (h:CampAt w w.heap.size V c) (hc:campB c=true) (i:Nat) (hi:i<c.crafts.length) :
  Calls Tryz.prog 62 #[.agg (campA V c),.int .i64 (i:Int)] w fun e w'=>e=.returned (.int .i64 (mostB c i))∧Below w.heap.size w w':=by
 have hn3:=(camp_len hc).2.1
 have hmg:=(camp_len hc).2.2.2.2.2.2
 have hcr:=camp_craft hc (i:Int)
 have hb0:Below w.heap.size w (w.alloc (.cells (campA V c) 26)):=(Below.refl _ _).alloc (Nat.le_refl _) _
 have HK:Hid (Bk (w.alloc (.cells (campA V c) 26)) w.heap.size 26 (campA V c)):=Lib.hid (Bk.new _ _ _)
 have HG:=Lib.hid (h.crafts.below hb0)
 have HB0:=Lib.hid hb0
 obtain ⟨nc,hnc⟩:∃ nc,c.crafts.length=nc:=⟨_,rfl⟩
 obtain ⟨mg,hmgv⟩:∃ mg,c.margin=mg:=⟨_,rfl⟩
 obtain ⟨lf,hlf⟩:∃ lf,(c.craftN i).lift=lf:=⟨_,rfl⟩
 have hlf2:(c.craft (i:Int)).lift=lf:=hlf
 obtain ⟨R,hR⟩:∃ R,lf * 1000 / (1000+mg)=R:=⟨_,rfl⟩
 have hMB:mostB c i=R:=by unfold mostB;rw [hlf2,hmgv];exact hR
 rw [hlf2] at hcr
 rw [hmgv] at hmg
 simp only [campA] at HK HB0 HG ⊢
 rw [hnc,hmgv] at HK HB0 HG ⊢
 rw [hMB]
 rw [hnc] at hi hn3
 obtain ⟨gb,go,hga,hgb,_,g1,_⟩:=Sl.at4 HG.out (i:=i) hi
 dsimp only [craftC] at g1
 rw [hlf] at g1
 rw [hga] at HK HB0 g1 ⊢
 have h0:=hcr.2.2.2.2.1
 have h1:=hcr.2.2.2.2.2
 have hW1:IntKind.i64.wrap (lf * 1000)=lf * 1000:=IntWalk.i64_in _ (by omega)
 have hW2:IntKind.i64.wrap (1000+mg)=1000+mg:=IntWalk.i64_in _ (by omega)
 have hR0:0≤R∧R≤lf * 1000:=by
  rw [← hR]
  exact ⟨Int.ediv_nonneg (by omega) (by omega),Int.ediv_le_self _ (by omega)⟩
 have hW3:IntKind.i64.wrap R=R:=IntWalk.i64_in _ (by omega)
 have hQ:(lf * 1000).tdiv (1000+mg)=R:=by rw [Int.tdiv_eq_ediv_of_nonneg (by omega)];exact hR
 have hz:¬ (1000+mg=0):=by omega
 have HW1:=Lib.hid hW1
 have HW2:=Lib.hid hW2
 have HW3:=Lib.hid hW3
 have HQ:=Lib.hid hQ
 have HZ:=Lib.hid hz
 have h0i:(0:Int)≤(i:Int):=by omega
 have hii:(i:Int)<(nc:Int):=by omega
 clear h hc hb0 hnc hmgv hlf hlf2 hR hMB hcr hga h0 h1 hW1 hW2 hW3 hQ hz hR0 HG hmg
 go_enter Tryz.func62,Tryz.ntmps62
 go_wp2_with fail
 obtain ⟨W,hW⟩:∃ W,W=w.alloc (.cells #[.slice (some ⟨gb,go,none⟩) nc V.cc,.slice V.pA c.pads.length V.pc,.slice V.gA c.cargos.length V.gc,.int .i64 mg] 26):=⟨_,rfl⟩
 rw [← hW] at HK HB0 g1 ⊢
 have hWs:W.heap.size=w.heap.size+1:=by rw [hW];simp
 clear hW
 have HC:Hid (∀ w1,Below W.heap.size W w1→w1.cell? ⟨w.heap.size,0,none⟩=some (.slice (some ⟨gb,go,none⟩) nc V.cc)∧w1.cell? ⟨w.heap.size,3,none⟩=some (.int .i64 mg)∧w1.cell? ⟨gb,go+i * 4+1,none⟩=some (.int .i64 lf)):=Lib.hid fun w1 hb=>by
  have hk:=HK.out.below hb HK.out.lt
  exact ⟨hk.cell 0,hk.cell 3,(hb.cell (p:=⟨gb,go+i * 4+1,none⟩) (by show gb<W.heap.size;omega)).trans g1⟩
 have HWS:=Lib.hid hWs
 clear g1 hWs
 refine wp_region_steps (by kernel_rfl) (by kernel_rfl) (fun w1=>Below W.heap.size W w1) (fun _ _ _=>True)
  (fun ix u _ _=>match ix with
   | 0=>u=.pointer (some ⟨w.heap.size,0,none⟩)
   | 1=>u=.slice (some ⟨gb,go,none⟩) nc V.cc
   | 2=>u=.int .i64 (i:Int)
   | 3=>u=.pointer (some ⟨gb,go+i * 4,none⟩)
   | 4=>u=.pointer (some ⟨gb,go+i * 4+1,none⟩)
   | 5=>u=.int .i64 lf
   | 6=>u=.int .i64 (lf * 1000)
   | 7=>u=.pointer (some ⟨w.heap.size,3,none⟩)
   | 8=>u=.int .i64 mg
   | 9=>u=.int .i64 (1000+mg)
   | 10=>u=.int .i64 R
   | _=>u=.int .i64 R) (Below.refl _ _).drew (fun _ _ _ _ _ _ _ _ h _ _=>h) ?_ ?_
 ·refine ⟨?_,?_,?_,?_,?_,?_,?_,?_,?_,?_,?_,?_,trivial⟩
  ·intro a w1 vs K HJ HK HD HN kk
   have e2:=HK 2 (by decide)
   go_simp;exact kk _ _ (by simp) HJ trivial rfl
  ·intro a w1 vs K HJ HK HD HN kk
   have e5:=hdE (HD 0 _ 5 rfl rfl rfl)
   have ca:w1.cell? ⟨w.heap.size,0,none⟩=some (.slice (some ⟨gb,go,none⟩) nc V.cc):=(HC.out w1 HJ).1
   go_simp;exact kk _ _ (by simp) HJ trivial rfl
  ·intro a w1 vs K HJ HK HD HN kk
   have e1:=HK 1 (by decide)
   go_simp;exact kk _ _ (by simp) HJ trivial rfl
  ·intro a w1 vs K HJ HK HD HN kk
   have e6:=hdE (HD 1 _ 6 rfl rfl rfl)
   have e7:=hdE (HD 2 _ 7 rfl rfl rfl)
   go_simp;exact kk _ _ (by simp) HJ trivial rfl
  ·intro a w1 vs K HJ HK HD HN kk
   have e8:=hdE (HD 3 _ 8 rfl rfl rfl)
   go_simp;exact kk _ _ (by simp) HJ trivial rfl
  ·intro a w1 vs K HJ HK HD HN kk
   have e9:=hdE (HD 4 _ 9 rfl rfl rfl)
   have ca:w1.cell? ⟨gb,go+i * 4+1,none⟩=some (.int .i64 lf):=(HC.out w1 HJ).2.2
   go_simp;exact kk _ _ (by simp) HJ trivial rfl
  ·intro a w1 vs K HJ HK HD HN kk
   have e10:=hdE (HD 5 _ 10 rfl rfl rfl)
   have hw:=HW1.out
   go_simp;exact kk _ _ (by simp) HJ trivial rfl
  ·intro a w1 vs K HJ HK HD HN kk
   have e2:=HK 2 (by decide)
   go_simp;exact kk _ _ (by simp) HJ trivial rfl
  ·intro a w1 vs K HJ HK HD HN kk
   have e12:=hdE (HD 7 _ 12 rfl rfl rfl)
   have ca:w1.cell? ⟨w.heap.size,3,none⟩=some (.int .i64 mg):=(HC.out w1 HJ).2.1
   go_simp;exact kk _ _ (by simp) HJ trivial rfl
  ·intro a w1 vs K HJ HK HD HN kk
   have e13:=hdE (HD 8 _ 13 rfl rfl rfl)
   have hw:=HW2.out
   go_simp;exact kk _ _ (by simp) HJ trivial rfl
  ·intro a w1 vs K HJ HK HD HN kk
   have e11:=hdE (HD 6 _ 11 rfl rfl rfl)
   have e14:=hdE (HD 9 _ 14 rfl rfl rfl)
   have hw:=HW3.out
   have hq:=HQ.out
   have hz:=HZ.out
   go_simp;exact kk _ _ (by simp) HJ trivial rfl
  ·intro a w1 vs K HJ HK HD HN kk
   have e15:=hdE (HD 10 _ 15 rfl rfl rfl)
   go_simp;exact kk _ _ (by simp) HJ trivial rfl
 ·intro vs w6 hw6 hrr
  have e11:vs 11=.int .i64 R:=hrr 11 _ rfl
  have HB6:=Lib.hid hw6
  clear hrr hw6
  simp only [putAll,Act.put,List.setIfInBounds_toArray,List.set_cons_zero,List.set_cons_succ]
  rw [e11]
  go_wp2_with fail
  go_ret
  exact ⟨rfl,HB0.out.trans (HB6.out.mono HB0.out.size)⟩
end Go.Proofs.YtcnjenlojnognaaGreat
/- What is proved: a contract of campaign.possible. Conditions: the campaign, which is valid, and the launch lie in memory. -/
namespace Go.Proofs.YtcnjenlojnognaaGreat
open Go.RowKit

theorem und_camp:Tryz.prog.underlying 26=some (.struct (match Tryz.prog.underlying 26 with | some (.struct f)=>f | _=>#[])):=by kernel_rfl
theorem info_camp:(Tryz.prog.info? 26).map (·.size)=some 4:=by kernel_rfl
theorem info_campA (V:CV) (c:CampD):(Tryz.prog.info? 26).map (·.size)=some (campA V c).size:=info_camp
theorem und_launch:Tryz.prog.underlying 52=some (.struct (match Tryz.prog.underlying 52 with | some (.struct f)=>f | _=>#[])):=by kernel_rfl
theorem info_launch:(Tryz.prog.info? 52).map (·.size)=some 4:=by kernel_rfl
/-- A launch's cells. -/
def launchA (x:LaunchD) (A:Option Addr) (cl:Nat):Array Value:=#[.int .i64 x.day,.int .i64 x.craft,.int .i64 x.pad,.slice A x.cargos.length cl]
theorem within_below (a b c:Int) (w:World):Calls Tryz.prog 46 #[.int .i64 a,.int .i64 b,.int .i64 c] w fun e w'=>e=.returned (.bool (inB a b c))∧Below w.heap.size w w' :=
 (within_any a b c w).mono fun e w' ⟨h1,h2⟩=>⟨h1,by rw [← h2];exact Below.refl _ _⟩
set_option maxRecDepth 100000 in
set_option maxHeartbeats 4000000 in
theorem openCl_any (w:World) (V:CV) (c:CampD) (h:CampAt w w.heap.size V c) (m:Nat) (hm:m<c.cargos.length) (day:Int) (lb cb:Nat) (hlb:w.cell? ⟨lb,0,none⟩=some (.int .i64 day)) (hcb:w.cell? ⟨cb,2,none⟩=some (.slice V.gA c.cargos.length V.gc)) :
  Calls Tryz.prog 106 #[.int .i64 (m:Int),.pointer (some ⟨lb,0,none⟩),.pointer (some ⟨cb,0,none⟩)] w fun e w'=>e=.returned (.bool (inB day (c.cargo m).frm (c.cargo m).to))∧Below w.heap.size w w':=by
 have hng:=h.cargos.1
 obtain ⟨gb,go,hga,hgb,_,_,_,g3,g4,_⟩:=Sl.at6 h.cargos (i:=m) hm
 dsimp only [cargoC] at g3 g4
 obtain ⟨fr,hfr⟩:∃ fr,(c.cargoN m).frm=fr:=⟨_,rfl⟩
 obtain ⟨tt,htt⟩:∃ tt,(c.cargoN m).to=tt:=⟨_,rfl⟩
 obtain ⟨ng,hng2⟩:∃ ng,c.cargos.length=ng:=⟨_,rfl⟩
 rw [cargo_nat,hfr,htt]
 rw [hfr] at g3
 rw [htt] at g4
 rw [hng2] at hcb hng hm
 rw [hga] at hcb
 obtain ⟨R,hR⟩:∃ R,inB day fr tt=R:=⟨_,rfl⟩
 have HWI:Hid (∀ w1,Calls Tryz.prog 46 #[.int .i64 day,.int .i64 fr,.int .i64 tt] w1 fun e w'=>e=.returned (.bool R)∧Below w1.heap.size w1 w'):=Lib.hid fun w1=>by rw [← hR];exact within_below _ _ _ _
 rw [hR]
 have HC:Hid (∀ w1,Below w.heap.size w w1→w1.cell? ⟨lb,0,none⟩=some (.int .i64 day)∧w1.cell? ⟨cb,2,none⟩=some (.slice (some ⟨gb,go,none⟩) ng V.gc)∧w1.cell? ⟨gb,go+m * 6+3,none⟩=some (.int .i64 fr)∧w1.cell? ⟨gb,go+m * 6+4,none⟩=some (.int .i64 tt)):=Lib.hid fun w1 hb =>
  ⟨(hb.cell (p:=⟨lb,0,none⟩) (World.block_lt_of_cell? w _ hlb)).trans hlb,(hb.cell (p:=⟨cb,2,none⟩) (World.block_lt_of_cell? w _ hcb)).trans hcb,(hb.cell (p:=⟨gb,go+m * 6+3,none⟩) hgb).trans g3,(hb.cell (p:=⟨gb,go+m * 6+4,none⟩) hgb).trans g4⟩
 have h0m:(0:Int)≤(m:Int):=by omega
 have hmi:(m:Int)<(ng:Int):=by omega
 clear h hga hfr htt hng2 hR hlb hcb g3 g4
 go_enter Tryz.func106,Tryz.ntmps106
 go_upto_region 1 with (fail)
 refine wp_region_steps (by kernel_rfl) (by kernel_rfl) (fun w1=>Below w.heap.size w w1) (fun _ _ _=>True)
  (fun ix u _ _=>match ix with
   | 0=>u=.pointer (some ⟨lb,0,none⟩)
   | 1=>u=.int .i64 day
   | 2=>u=.pointer (some ⟨cb,2,none⟩)
   | 3=>u=.slice (some ⟨gb,go,none⟩) ng V.gc
   | 4=>u=.int .i64 (m:Int)
   | 5=>u=.pointer (some ⟨gb,go+m * 6,none⟩)
   | 6=>u=.pointer (some ⟨gb,go+m * 6+3,none⟩)
   | 7=>u=.int .i64 fr
   | 8=>u=.pointer (some ⟨cb,2,none⟩)
   | 9=>u=.slice (some ⟨gb,go,none⟩) ng V.gc
   | 10=>u=.int .i64 (m:Int)
   | 11=>u=.pointer (some ⟨gb,go+m * 6,none⟩)
   | 12=>u=.pointer (some ⟨gb,go+m * 6+4,none⟩)
   | 13=>u=.int .i64 tt
   | 14=>u=.bool R
   | _=>u=.bool R) (Below.refl _ _).drew (fun _ _ _ _ _ _ _ _ h _ _=>h) ?_ ?_
 ·refine ⟨?_,?_,?_,?_,?_,?_,?_,?_,?_,?_,?_,?_,?_,?_,?_,?_,trivial⟩
  ·intro a w1 vs K HJ HK HD HN kk
   have e1:=HK 1 (by decide)
   go_simp;exact kk _ _ (by simp) HJ trivial rfl
  ·intro a w1 vs K HJ HK HD HN kk
   have e5:=hdE (HD 0 _ 5 rfl rfl rfl)
   have ca:w1.cell? ⟨lb,0,none⟩=some (.int .i64 day):=(HC.out w1 HJ).1
   go_simp;exact kk _ _ (by simp) HJ trivial rfl
  ·intro a w1 vs K HJ HK HD HN kk
   have e2:=HK 2 (by decide)
   go_simp;exact kk _ _ (by simp) HJ trivial rfl
  ·intro a w1 vs K HJ HK HD HN kk
   have e7:=hdE (HD 2 _ 7 rfl rfl rfl)
   have ca:w1.cell? ⟨cb,2,none⟩=some (.slice (some ⟨gb,go,none⟩) ng V.gc):=(HC.out w1 HJ).2.1
   go_simp;exact kk _ _ (by simp) HJ trivial rfl
  ·intro a w1 vs K HJ HK HD HN kk
   have e0:=HK 0 (by decide)
   go_simp;exact kk _ _ (by simp) HJ trivial rfl
  ·intro a w1 vs K HJ HK HD HN kk
   have e8:=hdE (HD 3 _ 8 rfl rfl rfl)
   have e9:=hdE (HD 4 _ 9 rfl rfl rfl)
   go_simp;exact kk _ _ (by simp) HJ trivial rfl
  ·intro a w1 vs K HJ HK HD HN kk
   have e10:=hdE (HD 5 _ 10 rfl rfl rfl)
   go_simp;exact kk _ _ (by simp) HJ trivial rfl
  ·intro a w1 vs K HJ HK HD HN kk
   have e11:=hdE (HD 6 _ 11 rfl rfl rfl)
   have ca:w1.cell? ⟨gb,go+m * 6+3,none⟩=some (.int .i64 fr):=(HC.out w1 HJ).2.2.1
   go_simp;exact kk _ _ (by simp) HJ trivial rfl
  ·intro a w1 vs K HJ HK HD HN kk
   have e2:=HK 2 (by decide)
   go_simp;exact kk _ _ (by simp) HJ trivial rfl
  ·intro a w1 vs K HJ HK HD HN kk
   have e13:=hdE (HD 8 _ 13 rfl rfl rfl)
   have ca:w1.cell? ⟨cb,2,none⟩=some (.slice (some ⟨gb,go,none⟩) ng V.gc):=(HC.out w1 HJ).2.1
   go_simp;exact kk _ _ (by simp) HJ trivial rfl
  ·intro a w1 vs K HJ HK HD HN kk
   have e0:=HK 0 (by decide)
   go_simp;exact kk _ _ (by simp) HJ trivial rfl
  ·intro a w1 vs K HJ HK HD HN kk
   have e14:=hdE (HD 9 _ 14 rfl rfl rfl)
   have e15:=hdE (HD 10 _ 15 rfl rfl rfl)
   go_simp;exact kk _ _ (by simp) HJ trivial rfl
  ·intro a w1 vs K HJ HK HD HN kk
   have e16:=hdE (HD 11 _ 16 rfl rfl rfl)
   go_simp;exact kk _ _ (by simp) HJ trivial rfl
  ·intro a w1 vs K HJ HK HD HN kk
   have e17:=hdE (HD 12 _ 17 rfl rfl rfl)
   have ca:w1.cell? ⟨gb,go+m * 6+4,none⟩=some (.int .i64 tt):=(HC.out w1 HJ).2.2.2
   go_simp;exact kk _ _ (by simp) HJ trivial rfl
  ·intro a w1 vs K HJ HK HD HN kk
   have e6:=hdE (HD 1 _ 6 rfl rfl rfl)
   have e12:=hdE (HD 7 _ 12 rfl rfl rfl)
   have e18:=hdE (HD 13 _ 18 rfl rfl rfl)
   exact wpo_call 46 _ _ rfl #[.int .i64 day,.int .i64 fr,.int .i64 tt] (by simp [Act.eval,e6,e12,e18]) (fun args w=>by kernel_rfl)
    ((HWI.out w1).mono fun e w' ⟨he,hb⟩=>⟨_,he,kk _ _ (by simp) (Below.trans HJ (hb.mono HJ.size)) trivial rfl⟩)
  ·intro a w1 vs K HJ HK HD HN kk
   have e19:=hdE (HD 14 _ 19 rfl rfl rfl)
   go_simp;exact kk _ _ (by simp) HJ trivial rfl
 ·intro vs w6 hw6 hrr
  have e15:vs 15=.bool R:=hrr 15 _ rfl
  have HB6:=Lib.hid hw6
  clear hrr hw6
  simp only [putAll,Act.put,List.setIfInBounds_toArray,List.set_cons_zero,List.set_cons_succ]
  rw [e15]
  go_wp2_with fail
  go_ret
  exact ⟨rfl,HB6.out⟩
theorem all_num (l:List Int) (q:Int→Bool):(allN l.length fun i=>q (numI l i))=l.all q:=allN_list l q 0
theorem possB_no1 {c:CampD} {x:LaunchD} (h:inB x.craft 0 (c.crafts.length - 1)=false):possB c x=false:=by unfold possB;rw [h];simp
theorem possB_no2 {c:CampD} {x:LaunchD} (h:inB x.pad 0 (c.pads.length - 1)=false):possB c x=false:=by unfold possB;rw [h];simp
theorem possB_no3 {c:CampD} {x:LaunchD} (h:(c.pad x.pad).takes.contains x.craft=false):possB c x=false:=by unfold possB;rw [h];simp
theorem possB_no4 {c:CampD} {x:LaunchD} (h:inB x.day (c.craft x.craft).ready 10000=false):possB c x=false:=by unfold possB;rw [h];simp
theorem possB_no5 {c:CampD} {x:LaunchD} (h:x.cargos=[]):possB c x=false:=by unfold possB;rw [h];simp
theorem possB_no6 {c:CampD} {x:LaunchD} (h:risingB x.cargos c.cargos.length=false):possB c x=false:=by unfold possB;rw [h];simp
theorem possB_no7 {c:CampD} {x:LaunchD} (h:x.cargos.all (fun i=>inB x.day (c.cargo i).frm (c.cargo i).to)=false):possB c x=false:=by unfold possB;rw [h];simp
theorem possB_yes {c:CampD} {x:LaunchD} {b:Bool} (h1:inB x.craft 0 (c.crafts.length - 1)=true) (h2:inB x.pad 0 (c.pads.length - 1)=true) (h3:(c.pad x.pad).takes.contains x.craft=true) (h4:inB x.day (c.craft x.craft).ready 10000=true) (h5:x.cargos ≠ [])
  (h6:risingB x.cargos c.cargos.length=true) (h7:x.cargos.all (fun i=>inB x.day (c.cargo i).frm (c.cargo i).to)=true) (h8:decide (massL c x.cargos≤mostB c x.craft)=b):possB c x=b:=by
 unfold possB;rw [h1,h2,h3,h4,h6,h7,h8];simp [h5]
set_option maxRecDepth 100000 in
set_option maxHeartbeats 16000000 in
theorem possible_any (w:World) (V:CV) (c:CampD) (h:CampAt w w.heap.size V c) (hc:campB c=true) (x:LaunchD) (A:Option Addr) (cl:Nat) (hl:IntsAt w w.heap.size A x.cargos) :
  Calls Tryz.prog 78 #[.agg (campA V c),.agg (launchA x A cl)] w fun e w'=>e=.returned (.bool (possB c x))∧Below w.heap.size w w':=by
 have hlen:=camp_len hc
 obtain ⟨nc,hnc⟩:∃ nc,c.crafts.length=nc:=⟨_,rfl⟩
 obtain ⟨np,hnp⟩:∃ np,c.pads.length=np:=⟨_,rfl⟩
 obtain ⟨ng,hng⟩:∃ ng,c.cargos.length=ng:=⟨_,rfl⟩
 obtain ⟨nl,hnl⟩:∃ nl,x.cargos.length=nl:=⟨_,rfl⟩
 have hll:=hl.1
 obtain ⟨qb,hqb⟩:∃ qb,w.heap.size=qb:=⟨_,rfl⟩
 obtain ⟨W0,hW0⟩:∃ W0,(w.alloc (.cells (campA V c) 26)).alloc (.cells (launchA x A cl) 52)=W0:=⟨_,rfl⟩
 have hb0:Below w.heap.size w W0:=by rw [← hW0];exact ((Below.refl _ w).alloc (Nat.le_refl _) _).alloc (by simp) _
 have HB0:Hid (Below qb w W0):=Lib.hid (by rw [← hqb];exact hb0)
 have HKC:Hid (Bk W0 qb 26 (campA V c)):=Lib.hid (by rw [← hW0,← hqb];exact (Bk.new _ _ _).alloc _)
 have HKL:Hid (Bk W0 (qb+1) 52 (launchA x A cl)):=Lib.hid (by rw [← hW0,← hqb];exact Bk.newAt _ _ _ _ (by simp))
 have hLT:qb+1<W0.heap.size:=HKL.out.lt
 have HCA:=Lib.hid (h.later hb0)
 have HLA:=Lib.hid (hl.later hb0)
 obtain ⟨R,hR⟩:∃ R,possB c x=R:=⟨_,rfl⟩
 have HR:=Lib.hid hR
 have HFIN:Hid (∀ (b:Bool) (w':World),b=R→Below qb w w'→Ending.returned (.bool b)=.returned (.bool R)∧Below qb w w'):=Lib.hid fun b w' h1 h2=>by subst h1;exact ⟨rfl,h2⟩
 have HCAMP:=Lib.hid hc
 have HNC:=Lib.hid hnc
 have HNP:=Lib.hid hnp
 have HNG:=Lib.hid hng
 have HNL:=Lib.hid hnl
 simp only [campA,launchA] at hW0 ⊢
 rw [hnc,hnp,hng,hnl] at hW0
 rw [hnc,hnp,hng,hnl,hR,hqb]
 rw [hnl] at hll
 have hn1:nc≤3:=by omega
 have hn2:np≤2:=by omega
 have hn3:ng≤6:=by omega
 have hn1':1≤nc:=by omega
 have hn2':1≤np:=by omega
 -- what the cells hold in every later world
 have HC:Hid (∀ w1,Below W0.heap.size W0 w1→w1.cell? ⟨qb,0,none⟩=some (.slice V.cA nc V.cc)∧w1.cell? ⟨qb,1,none⟩=some (.slice V.pA np V.pc)∧w1.cell? ⟨qb,2,none⟩=some (.slice V.gA ng V.gc) ∧
   w1.cell? ⟨qb+1,0,none⟩=some (.int .i64 x.day)∧w1.cell? ⟨qb+1,1,none⟩=some (.int .i64 x.craft)∧w1.cell? ⟨qb+1,2,none⟩=some (.int .i64 x.pad)∧w1.cell? ⟨qb+1,3,none⟩=some (.slice A nl cl)):=Lib.hid fun w1 hb=>by
  have k1:=HKC.out.below hb HKC.out.lt
  have k2:=HKL.out.below hb HKL.out.lt
  rw [← hnc,← hnp,← hng,← hnl]
  exact ⟨k1.cell 0,k1.cell 1,k1.cell 2,k2.cell 0,k2.cell 1,k2.cell 2,k2.cell 3⟩
 have HSZ:Hid (qb≤W0.heap.size):=Lib.hid (by omega)
 clear h hl hb0 hR hlen hc hnc hnp hng hnl hLT
 obtain ⟨b1,hb1⟩:∃ b,inB x.craft 0 ((nc:Int) - 1)=b:=⟨_,rfl⟩
 have HI1:Hid (∀ w1,Calls Tryz.prog 46 #[.int .i64 x.craft,.int .i64 0,.int .i64 ((nc:Int) - 1)] w1 fun e w'=>e=.returned (.bool b1)∧Below w1.heap.size w1 w'):=Lib.hid fun w1=>by rw [← hb1];exact within_below _ _ _ _
 have HB1:=Lib.hid hb1
 clear hb1
 obtain ⟨b2,hb2⟩:∃ b,inB x.pad 0 ((np:Int) - 1)=b:=⟨_,rfl⟩
 have HI2:Hid (∀ w1,Calls Tryz.prog 46 #[.int .i64 x.pad,.int .i64 0,.int .i64 ((np:Int) - 1)] w1 fun e w'=>e=.returned (.bool b2)∧Below w1.heap.size w1 w'):=Lib.hid fun w1=>by rw [← hb2];exact within_below _ _ _ _
 have HB2:=Lib.hid hb2
 clear hb2
 cases b1 with
 | false =>
  have HRF:Hid (false=R):=Lib.hid (by rw [← HR.out];exact (possB_no1 (by rw [HNC.out];exact HB1.out)).symm)
  go_enter Tryz.func78,Tryz.ntmps78
  go_upto_region 1 with (fail)
  clear hqb hW0
  refine wp_region_steps (by kernel_rfl) (by kernel_rfl) (fun w1=>Below W0.heap.size W0 w1) (fun _ _ _=>True)
   (fun ix u _ _=>match ix with
    | 0=>u=.pointer (some ⟨qb+1,1,none⟩)
    | 1=>u=.int .i64 x.craft
    | 2=>u=.pointer (some ⟨qb,0,none⟩)
    | 3=>u=.slice V.cA nc V.cc
    | 4=>u=.int .i64 nc
    | 5=>u=.int .i64 ((nc:Int) - 1)
    | 6=>u=.bool false
    | 7=>u=.bool true
    | 8=>u=.bool true
    | 9=>True
    | 10=>True
    | 11=>True
    | 12=>True
    | 13=>True
    | 14=>True
    | 15=>True
    | 16=>True
    | 17=>u=.bool true
    | 18=>u=.bool true
    | 19=>True
    | 20=>True
    | 21=>True
    | 22=>True
    | 23=>True
    | 24=>True
    | 25=>True
    | 26=>True
    | 27=>True
    | 28=>True
    | 29=>True
    | _=>u=.bool true) (Below.refl _ _).drew (fun _ _ _ _ _ _ _ _ h _ _=>h) ?_ ?_
  ·refine ⟨?_,?_,?_,?_,?_,?_,?_,?_,?_,?_,?_,?_,?_,?_,?_,?_,?_,?_,?_,?_,?_,?_,?_,?_,?_,?_,?_,?_,?_,?_,?_,trivial⟩
   ·intro a w1 vs K HJ HK HD HN kk
    have e3:=HK 3 (by decide)
    go_simp;exact kk _ _ (by simp) HJ trivial rfl
   ·intro a w1 vs K HJ HK HD HN kk
    have e6:=hdE (HD 0 _ 6 rfl rfl rfl)
    have ca:w1.cell? ⟨qb+1,1,none⟩=some (.int .i64 x.craft):=(HC.out w1 HJ).2.2.2.2.1
    go_simp;exact kk _ _ (by simp) HJ trivial rfl
   ·intro a w1 vs K HJ HK HD HN kk
    have e2:=HK 2 (by decide)
    go_simp;exact kk _ _ (by simp) HJ trivial rfl
   ·intro a w1 vs K HJ HK HD HN kk
    have e8:=hdE (HD 2 _ 8 rfl rfl rfl)
    have ca:w1.cell? ⟨qb,0,none⟩=some (.slice V.cA nc V.cc):=(HC.out w1 HJ).1
    go_simp;exact kk _ _ (by simp) HJ trivial rfl
   ·intro a w1 vs K HJ HK HD HN kk
    have e9:=hdE (HD 3 _ 9 rfl rfl rfl)
    go_simp;exact kk _ _ (by simp) HJ trivial rfl
   ·intro a w1 vs K HJ HK HD HN kk
    have e10:=hdE (HD 4 _ 10 rfl rfl rfl)
    have hws:IntKind.i64.wrap ((nc:Int) - 1)=(nc:Int) - 1:=IntWalk.i64_in _ (by omega)
    go_simp;exact kk _ _ (by simp) HJ trivial rfl
   ·intro a w1 vs K HJ HK HD HN kk
    have e7:=hdE (HD 1 _ 7 rfl rfl rfl)
    have e11:=hdE (HD 5 _ 11 rfl rfl rfl)
    exact wpo_call 46 _ _ rfl #[.int .i64 x.craft,.int .i64 0,.int .i64 ((nc:Int) - 1)] (by simp [Act.eval,e7,e11]) (fun args w=>by kernel_rfl)
     ((HI1.out w1).mono fun e w' ⟨he,hb⟩=>⟨_,he,kk _ _ (by simp) (Below.trans HJ (hb.mono HJ.size)) trivial rfl⟩)
   ·intro a w1 vs K HJ HK HD HN kk
    have e12:=hdE (HD 6 _ 12 rfl rfl rfl)
    go_simp;exact kk _ _ (by simp) HJ trivial rfl
   ·intro a w1 vs K HJ HK HD HN kk
    have e13:=hdE (HD 7 _ 13 rfl rfl rfl)
    go_simp;exact kk _ _ (by simp) HJ trivial rfl
   ·intro a w1 vs K HJ HK HD HN kk
    have e14:=hdE (HD 8 _ 14 rfl rfl rfl)
    rw [if_neg (wanted_no 8 false rfl rfl rfl e14)]
    exact kk undef _ (by simp) HJ trivial trivial
   ·intro a w1 vs K HJ HK HD HN kk
    have e14:=hdE (HD 8 _ 14 rfl rfl rfl)
    rw [if_neg (wanted_no 8 false rfl rfl rfl e14)]
    exact kk undef _ (by simp) HJ trivial trivial
   ·intro a w1 vs K HJ HK HD HN kk
    have e14:=hdE (HD 8 _ 14 rfl rfl rfl)
    rw [if_neg (wanted_no 8 false rfl rfl rfl e14)]
    exact kk undef _ (by simp) HJ trivial trivial
   ·intro a w1 vs K HJ HK HD HN kk
    have e14:=hdE (HD 8 _ 14 rfl rfl rfl)
    rw [if_neg (wanted_no 8 false rfl rfl rfl e14)]
    exact kk undef _ (by simp) HJ trivial trivial
   ·intro a w1 vs K HJ HK HD HN kk
    have e14:=hdE (HD 8 _ 14 rfl rfl rfl)
    rw [if_neg (wanted_no 8 false rfl rfl rfl e14)]
    exact kk undef _ (by simp) HJ trivial trivial
   ·intro a w1 vs K HJ HK HD HN kk
    have e14:=hdE (HD 8 _ 14 rfl rfl rfl)
    rw [if_neg (wanted_no 8 false rfl rfl rfl e14)]
    exact kk undef _ (by simp) HJ trivial trivial
   ·intro a w1 vs K HJ HK HD HN kk
    have e14:=hdE (HD 8 _ 14 rfl rfl rfl)
    rw [if_neg (wanted_no 8 false rfl rfl rfl e14)]
    exact kk undef _ (by simp) HJ trivial trivial
   ·intro a w1 vs K HJ HK HD HN kk
    have e14:=hdE (HD 8 _ 14 rfl rfl rfl)
    rw [if_neg (wanted_no 8 false rfl rfl rfl e14)]
    exact kk undef _ (by simp) HJ trivial trivial
   ·intro a w1 vs K HJ HK HD HN kk
    have e14:=hdE (HD 8 _ 14 rfl rfl rfl)
    go_simp;exact kk _ _ (by simp) HJ trivial rfl
   ·intro a w1 vs K HJ HK HD HN kk
    have e23:=hdE (HD 17 _ 23 rfl rfl rfl)
    go_simp;exact kk _ _ (by simp) HJ trivial rfl
   ·intro a w1 vs K HJ HK HD HN kk
    have e24:=hdE (HD 18 _ 24 rfl rfl rfl)
    rw [if_neg (wanted_no 18 false rfl rfl rfl e24)]
    exact kk undef _ (by simp) HJ trivial trivial
   ·intro a w1 vs K HJ HK HD HN kk
    have e24:=hdE (HD 18 _ 24 rfl rfl rfl)
    rw [if_neg (wanted_no 18 false rfl rfl rfl e24)]
    exact kk undef _ (by simp) HJ trivial trivial
   ·intro a w1 vs K HJ HK HD HN kk
    have e24:=hdE (HD 18 _ 24 rfl rfl rfl)
    rw [if_neg (wanted_no 18 false rfl rfl rfl e24)]
    exact kk undef _ (by simp) HJ trivial trivial
   ·intro a w1 vs K HJ HK HD HN kk
    have e24:=hdE (HD 18 _ 24 rfl rfl rfl)
    rw [if_neg (wanted_no 18 false rfl rfl rfl e24)]
    exact kk undef _ (by simp) HJ trivial trivial
   ·intro a w1 vs K HJ HK HD HN kk
    have e24:=hdE (HD 18 _ 24 rfl rfl rfl)
    rw [if_neg (wanted_no 18 false rfl rfl rfl e24)]
    exact kk undef _ (by simp) HJ trivial trivial
   ·intro a w1 vs K HJ HK HD HN kk
    have e24:=hdE (HD 18 _ 24 rfl rfl rfl)
    rw [if_neg (wanted_no 18 false rfl rfl rfl e24)]
    exact kk undef _ (by simp) HJ trivial trivial
   ·intro a w1 vs K HJ HK HD HN kk
    have e24:=hdE (HD 18 _ 24 rfl rfl rfl)
    rw [if_neg (wanted_no 18 false rfl rfl rfl e24)]
    exact kk undef _ (by simp) HJ trivial trivial
   ·intro a w1 vs K HJ HK HD HN kk
    have e24:=hdE (HD 18 _ 24 rfl rfl rfl)
    rw [if_neg (wanted_no 18 false rfl rfl rfl e24)]
    exact kk undef _ (by simp) HJ trivial trivial
   ·intro a w1 vs K HJ HK HD HN kk
    have e24:=hdE (HD 18 _ 24 rfl rfl rfl)
    rw [if_neg (wanted_no 18 false rfl rfl rfl e24)]
    exact kk undef _ (by simp) HJ trivial trivial
   ·intro a w1 vs K HJ HK HD HN kk
    have e24:=hdE (HD 18 _ 24 rfl rfl rfl)
    rw [if_neg (wanted_no 18 false rfl rfl rfl e24)]
    exact kk undef _ (by simp) HJ trivial trivial
   ·intro a w1 vs K HJ HK HD HN kk
    have e24:=hdE (HD 18 _ 24 rfl rfl rfl)
    rw [if_neg (wanted_no 18 false rfl rfl rfl e24)]
    exact kk undef _ (by simp) HJ trivial trivial
   ·intro a w1 vs K HJ HK HD HN kk
    have e24:=hdE (HD 18 _ 24 rfl rfl rfl)
    go_simp;exact kk _ _ (by simp) HJ trivial rfl
  ·intro vs w6 hw6 hrr
   have e30:vs 30=.bool true:=hrr 30 _ rfl
   have HB6:=Lib.hid hw6
   clear hrr hw6
   simp only [putAll,Act.put,List.setIfInBounds_toArray,List.set_cons_zero,List.set_cons_succ]
   rw [e30]
   go_wp2_with fail
   go_ret
   exact HFIN.out _ _ HRF.out (HB0.out.trans (HB6.out.mono HSZ.out))
 | true =>
 cases b2 with
 | false =>
  have HRF:Hid (false=R):=Lib.hid (by rw [← HR.out];exact (possB_no2 (by rw [HNP.out];exact HB2.out)).symm)
  go_enter Tryz.func78,Tryz.ntmps78
  go_upto_region 1 with (fail)
  clear hqb hW0
  refine wp_region_steps (by kernel_rfl) (by kernel_rfl) (fun w1=>Below W0.heap.size W0 w1) (fun _ _ _=>True)
   (fun ix u _ _=>match ix with
    | 0=>u=.pointer (some ⟨qb+1,1,none⟩)
    | 1=>u=.int .i64 x.craft
    | 2=>u=.pointer (some ⟨qb,0,none⟩)
    | 3=>u=.slice V.cA nc V.cc
    | 4=>u=.int .i64 nc
    | 5=>u=.int .i64 ((nc:Int) - 1)
    | 6=>u=.bool true
    | 7=>u=.bool false
    | 8=>u=.bool false
    | 9=>u=.pointer (some ⟨qb+1,2,none⟩)
    | 10=>u=.int .i64 x.pad
    | 11=>u=.pointer (some ⟨qb,1,none⟩)
    | 12=>u=.slice V.pA np V.pc
    | 13=>u=.int .i64 np
    | 14=>u=.int .i64 ((np:Int) - 1)
    | 15=>u=.bool false
    | 16=>u=.bool true
    | 17=>u=.bool true
    | 18=>u=.bool true
    | 19=>True
    | 20=>True
    | 21=>True
    | 22=>True
    | 23=>True
    | 24=>True
    | 25=>True
    | 26=>True
    | 27=>True
    | 28=>True
    | 29=>True
    | _=>u=.bool true) (Below.refl _ _).drew (fun _ _ _ _ _ _ _ _ h _ _=>h) ?_ ?_
  ·refine ⟨?_,?_,?_,?_,?_,?_,?_,?_,?_,?_,?_,?_,?_,?_,?_,?_,?_,?_,?_,?_,?_,?_,?_,?_,?_,?_,?_,?_,?_,?_,?_,trivial⟩
   ·intro a w1 vs K HJ HK HD HN kk
    have e3:=HK 3 (by decide)
    go_simp;exact kk _ _ (by simp) HJ trivial rfl
   ·intro a w1 vs K HJ HK HD HN kk
    have e6:=hdE (HD 0 _ 6 rfl rfl rfl)
    have ca:w1.cell? ⟨qb+1,1,none⟩=some (.int .i64 x.craft):=(HC.out w1 HJ).2.2.2.2.1
    go_simp;exact kk _ _ (by simp) HJ trivial rfl
   ·intro a w1 vs K HJ HK HD HN kk
    have e2:=HK 2 (by decide)
    go_simp;exact kk _ _ (by simp) HJ trivial rfl
   ·intro a w1 vs K HJ HK HD HN kk
    have e8:=hdE (HD 2 _ 8 rfl rfl rfl)
    have ca:w1.cell? ⟨qb,0,none⟩=some (.slice V.cA nc V.cc):=(HC.out w1 HJ).1
    go_simp;exact kk _ _ (by simp) HJ trivial rfl
   ·intro a w1 vs K HJ HK HD HN kk
    have e9:=hdE (HD 3 _ 9 rfl rfl rfl)
    go_simp;exact kk _ _ (by simp) HJ trivial rfl
   ·intro a w1 vs K HJ HK HD HN kk
    have e10:=hdE (HD 4 _ 10 rfl rfl rfl)
    have hws:IntKind.i64.wrap ((nc:Int) - 1)=(nc:Int) - 1:=IntWalk.i64_in _ (by omega)
    go_simp;exact kk _ _ (by simp) HJ trivial rfl
   ·intro a w1 vs K HJ HK HD HN kk
    have e7:=hdE (HD 1 _ 7 rfl rfl rfl)
    have e11:=hdE (HD 5 _ 11 rfl rfl rfl)
    exact wpo_call 46 _ _ rfl #[.int .i64 x.craft,.int .i64 0,.int .i64 ((nc:Int) - 1)] (by simp [Act.eval,e7,e11]) (fun args w=>by kernel_rfl)
     ((HI1.out w1).mono fun e w' ⟨he,hb⟩=>⟨_,he,kk _ _ (by simp) (Below.trans HJ (hb.mono HJ.size)) trivial rfl⟩)
   ·intro a w1 vs K HJ HK HD HN kk
    have e12:=hdE (HD 6 _ 12 rfl rfl rfl)
    go_simp;exact kk _ _ (by simp) HJ trivial rfl
   ·intro a w1 vs K HJ HK HD HN kk
    have e13:=hdE (HD 7 _ 13 rfl rfl rfl)
    go_simp;exact kk _ _ (by simp) HJ trivial rfl
   ·intro a w1 vs K HJ HK HD HN kk
    have e14:=hdE (HD 8 _ 14 rfl rfl rfl)
    rw [if_pos (wanted_yes 8 false rfl rfl rfl e14)]
    have e3:=HK 3 (by decide)
    go_simp;exact kk _ _ (by simp) HJ trivial rfl
   ·intro a w1 vs K HJ HK HD HN kk
    have e14:=hdE (HD 8 _ 14 rfl rfl rfl)
    rw [if_pos (wanted_yes 8 false rfl rfl rfl e14)]
    have e15:=hdE (HD 9 _ 15 rfl rfl rfl)
    have ca:w1.cell? ⟨qb+1,2,none⟩=some (.int .i64 x.pad):=(HC.out w1 HJ).2.2.2.2.2.1
    go_simp;exact kk _ _ (by simp) HJ trivial rfl
   ·intro a w1 vs K HJ HK HD HN kk
    have e14:=hdE (HD 8 _ 14 rfl rfl rfl)
    rw [if_pos (wanted_yes 8 false rfl rfl rfl e14)]
    have e2:=HK 2 (by decide)
    go_simp;exact kk _ _ (by simp) HJ trivial rfl
   ·intro a w1 vs K HJ HK HD HN kk
    have e14:=hdE (HD 8 _ 14 rfl rfl rfl)
    rw [if_pos (wanted_yes 8 false rfl rfl rfl e14)]
    have e17:=hdE (HD 11 _ 17 rfl rfl rfl)
    have ca:w1.cell? ⟨qb,1,none⟩=some (.slice V.pA np V.pc):=(HC.out w1 HJ).2.1
    go_simp;exact kk _ _ (by simp) HJ trivial rfl
   ·intro a w1 vs K HJ HK HD HN kk
    have e14:=hdE (HD 8 _ 14 rfl rfl rfl)
    rw [if_pos (wanted_yes 8 false rfl rfl rfl e14)]
    have e18:=hdE (HD 12 _ 18 rfl rfl rfl)
    go_simp;exact kk _ _ (by simp) HJ trivial rfl
   ·intro a w1 vs K HJ HK HD HN kk
    have e14:=hdE (HD 8 _ 14 rfl rfl rfl)
    rw [if_pos (wanted_yes 8 false rfl rfl rfl e14)]
    have e19:=hdE (HD 13 _ 19 rfl rfl rfl)
    have hws:IntKind.i64.wrap ((np:Int) - 1)=(np:Int) - 1:=IntWalk.i64_in _ (by omega)
    go_simp;exact kk _ _ (by simp) HJ trivial rfl
   ·intro a w1 vs K HJ HK HD HN kk
    have e14:=hdE (HD 8 _ 14 rfl rfl rfl)
    rw [if_pos (wanted_yes 8 false rfl rfl rfl e14)]
    have e16:=hdE (HD 10 _ 16 rfl rfl rfl)
    have e20:=hdE (HD 14 _ 20 rfl rfl rfl)
    exact wpo_call 46 _ _ rfl #[.int .i64 x.pad,.int .i64 0,.int .i64 ((np:Int) - 1)] (by simp [Act.eval,e16,e20]) (fun args w=>by kernel_rfl)
     ((HI2.out w1).mono fun e w' ⟨he,hb⟩=>⟨_,he,kk _ _ (by simp) (Below.trans HJ (hb.mono HJ.size)) trivial rfl⟩)
   ·intro a w1 vs K HJ HK HD HN kk
    have e14:=hdE (HD 8 _ 14 rfl rfl rfl)
    rw [if_pos (wanted_yes 8 false rfl rfl rfl e14)]
    have e21:=hdE (HD 15 _ 21 rfl rfl rfl)
    go_simp;exact kk _ _ (by simp) HJ trivial rfl
   ·intro a w1 vs K HJ HK HD HN kk
    have e14:=hdE (HD 8 _ 14 rfl rfl rfl)
    have e22:=hdE (HD 16 _ 22 rfl rfl rfl)
    go_simp;exact kk _ _ (by simp) HJ trivial rfl
   ·intro a w1 vs K HJ HK HD HN kk
    have e23:=hdE (HD 17 _ 23 rfl rfl rfl)
    go_simp;exact kk _ _ (by simp) HJ trivial rfl
   ·intro a w1 vs K HJ HK HD HN kk
    have e24:=hdE (HD 18 _ 24 rfl rfl rfl)
    rw [if_neg (wanted_no 18 false rfl rfl rfl e24)]
    exact kk undef _ (by simp) HJ trivial trivial
   ·intro a w1 vs K HJ HK HD HN kk
    have e24:=hdE (HD 18 _ 24 rfl rfl rfl)
    rw [if_neg (wanted_no 18 false rfl rfl rfl e24)]
    exact kk undef _ (by simp) HJ trivial trivial
   ·intro a w1 vs K HJ HK HD HN kk
    have e24:=hdE (HD 18 _ 24 rfl rfl rfl)
    rw [if_neg (wanted_no 18 false rfl rfl rfl e24)]
    exact kk undef _ (by simp) HJ trivial trivial
   ·intro a w1 vs K HJ HK HD HN kk
    have e24:=hdE (HD 18 _ 24 rfl rfl rfl)
    rw [if_neg (wanted_no 18 false rfl rfl rfl e24)]
    exact kk undef _ (by simp) HJ trivial trivial
   ·intro a w1 vs K HJ HK HD HN kk
    have e24:=hdE (HD 18 _ 24 rfl rfl rfl)
    rw [if_neg (wanted_no 18 false rfl rfl rfl e24)]
    exact kk undef _ (by simp) HJ trivial trivial
   ·intro a w1 vs K HJ HK HD HN kk
    have e24:=hdE (HD 18 _ 24 rfl rfl rfl)
    rw [if_neg (wanted_no 18 false rfl rfl rfl e24)]
    exact kk undef _ (by simp) HJ trivial trivial
   ·intro a w1 vs K HJ HK HD HN kk
    have e24:=hdE (HD 18 _ 24 rfl rfl rfl)
    rw [if_neg (wanted_no 18 false rfl rfl rfl e24)]
    exact kk undef _ (by simp) HJ trivial trivial
   ·intro a w1 vs K HJ HK HD HN kk
    have e24:=hdE (HD 18 _ 24 rfl rfl rfl)
    rw [if_neg (wanted_no 18 false rfl rfl rfl e24)]
    exact kk undef _ (by simp) HJ trivial trivial
   ·intro a w1 vs K HJ HK HD HN kk
    have e24:=hdE (HD 18 _ 24 rfl rfl rfl)
    rw [if_neg (wanted_no 18 false rfl rfl rfl e24)]
    exact kk undef _ (by simp) HJ trivial trivial
   ·intro a w1 vs K HJ HK HD HN kk
    have e24:=hdE (HD 18 _ 24 rfl rfl rfl)
    rw [if_neg (wanted_no 18 false rfl rfl rfl e24)]
    exact kk undef _ (by simp) HJ trivial trivial
   ·intro a w1 vs K HJ HK HD HN kk
    have e24:=hdE (HD 18 _ 24 rfl rfl rfl)
    rw [if_neg (wanted_no 18 false rfl rfl rfl e24)]
    exact kk undef _ (by simp) HJ trivial trivial
   ·intro a w1 vs K HJ HK HD HN kk
    have e24:=hdE (HD 18 _ 24 rfl rfl rfl)
    go_simp;exact kk _ _ (by simp) HJ trivial rfl
  ·intro vs w6 hw6 hrr
   have e30:vs 30=.bool true:=hrr 30 _ rfl
   have HB6:=Lib.hid hw6
   clear hrr hw6
   simp only [putAll,Act.put,List.setIfInBounds_toArray,List.set_cons_zero,List.set_cons_succ]
   rw [e30]
   go_wp2_with fail
   go_ret
   exact HFIN.out _ _ HRF.out (HB0.out.trans (HB6.out.mono HSZ.out))
 | true =>
 obtain ⟨ic,hic⟩:∃ ic:Nat,x.craft=(ic:Int):=⟨x.craft.toNat,by have:=(inB_iff.1 HB1.out).1;omega⟩
 obtain ⟨ip,hip⟩:∃ ip:Nat,x.pad=(ip:Int):=⟨x.pad.toNat,by have:=(inB_iff.1 HB2.out).1;omega⟩
 have hicn:ic<nc:=by have:=(inB_iff.1 HB1.out).2;omega
 have hipn:ip<np:=by have:=(inB_iff.1 HB2.out).2;omega
 have HIC:=Lib.hid hic
 have HIP:=Lib.hid hip
 obtain ⟨cb,co,hcA,hcb,_,_,g2,_⟩:=Sl.at4 HCA.out.crafts (i:=ic) (by rw [HNC.out];exact hicn)
 obtain ⟨pb,po,hpA,hpb,_,_,t2⟩:=Sl.at3 HCA.out.pads (i:=ip) (by rw [HNP.out];exact hipn)
 dsimp only [craftC] at g2
 dsimp only [padC] at t2
 obtain ⟨rd,hrd⟩:∃ rd,(c.craftN ic).ready=rd:=⟨_,rfl⟩
 obtain ⟨nt,hnt⟩:∃ nt,(c.padN ip).takes.length=nt:=⟨_,rfl⟩
 have HTK:=Lib.hid (HCA.out.takes ip (by rw [HNP.out];exact hipn))
 rw [hrd] at g2
 rw [hnt] at t2
 obtain ⟨b3,hb3⟩:∃ b,(c.padN ip).takes.contains (ic:Int)=b:=⟨_,rfl⟩
 have HCT:Hid (∀ w1,Below W0.heap.size W0 w1→Calls Tryz.prog 59 #[.slice (V.tA ip) nt (V.tc ip),.int .i64 (ic:Int)] w1 fun e w'=>e=.returned (.bool b3)∧Below w1.heap.size w1 w'):=Lib.hid fun w1 hb=>by
  rw [← hb3,← hnt]
  exact (contains_any w1 (V.tA ip) (V.tc ip) _ _ (HTK.out.later hb)).mono fun e w' ⟨a,b⟩=>⟨a,by rw [b];exact Below.refl _ _⟩
 have HB3:Hid ((c.pad x.pad).takes.contains x.craft=b3):=Lib.hid (by rw [hip,hic];exact hb3)
 have HC2:Hid (∀ w1,Below W0.heap.size W0 w1→w1.cell? ⟨cb,co+ic * 4+2,none⟩=some (.int .i64 rd)∧w1.cell? ⟨pb,po+ip * 3+2,none⟩=some (.slice (V.tA ip) nt (V.tc ip))):=Lib.hid fun w1 hb =>
  ⟨(hb.cell (p:=⟨cb,co+ic * 4+2,none⟩) hcb).trans g2,(hb.cell (p:=⟨pb,po+ip * 3+2,none⟩) hpb).trans t2⟩
 have HRD:Hid ((c.craft x.craft).ready=rd):=Lib.hid (by rw [hic];exact hrd)
 rw [hcA,hpA] at HC
 rw [hic,hip] at HC
 rw [hcA,hpA,hic,hip] at hW0
 rw [hic] at HI1
 rw [hip] at HI2
 have h0ic:(0:Int)≤(ic:Int):=by omega
 have h0ip:(0:Int)≤(ip:Int):=by omega
 have hici:(ic:Int)<(nc:Int):=by omega
 have hipi:(ip:Int)<(np:Int):=by omega
 have HCRA:=Lib.hid hcA
 have HCPA:=Lib.hid hpA
 rw [hcA,hpA,hic,hip]
 clear hb3 hnt hrd g2 t2 hcA hpA hic hip hcb hpb HTK
 cases b3 with
 | false =>
  have HRF:Hid (false=R):=Lib.hid (by rw [← HR.out];exact (possB_no3 HB3.out).symm)
  go_enter Tryz.func78,Tryz.ntmps78
  go_upto_region 1 with (fail)
  clear hqb hW0
  refine wp_region_steps (by kernel_rfl) (by kernel_rfl) (fun w1=>Below W0.heap.size W0 w1) (fun _ _ _=>True)
   (fun ix u _ _=>match ix with
    | 0=>u=.pointer (some ⟨qb+1,1,none⟩)
    | 1=>u=.int .i64 (ic:Int)
    | 2=>u=.pointer (some ⟨qb,0,none⟩)
    | 3=>u=.slice (some ⟨cb,co,none⟩) nc V.cc
    | 4=>u=.int .i64 nc
    | 5=>u=.int .i64 ((nc:Int) - 1)
    | 6=>u=.bool true
    | 7=>u=.bool false
    | 8=>u=.bool false
    | 9=>u=.pointer (some ⟨qb+1,2,none⟩)
    | 10=>u=.int .i64 (ip:Int)
    | 11=>u=.pointer (some ⟨qb,1,none⟩)
    | 12=>u=.slice (some ⟨pb,po,none⟩) np V.pc
    | 13=>u=.int .i64 np
    | 14=>u=.int .i64 ((np:Int) - 1)
    | 15=>u=.bool true
    | 16=>u=.bool false
    | 17=>u=.bool false
    | 18=>u=.bool false
    | 19=>u=.pointer (some ⟨qb,1,none⟩)
    | 20=>u=.slice (some ⟨pb,po,none⟩) np V.pc
    | 21=>u=.pointer (some ⟨qb+1,2,none⟩)
    | 22=>u=.int .i64 (ip:Int)
    | 23=>u=.pointer (some ⟨pb,po+ip * 3,none⟩)
    | 24=>u=.pointer (some ⟨pb,po+ip * 3+2,none⟩)
    | 25=>u=.slice (V.tA ip) nt (V.tc ip)
    | 26=>u=.pointer (some ⟨qb+1,1,none⟩)
    | 27=>u=.int .i64 (ic:Int)
    | 28=>u=.bool false
    | 29=>u=.bool true
    | _=>u=.bool true) (Below.refl _ _).drew (fun _ _ _ _ _ _ _ _ h _ _=>h) ?_ ?_
  ·refine ⟨?_,?_,?_,?_,?_,?_,?_,?_,?_,?_,?_,?_,?_,?_,?_,?_,?_,?_,?_,?_,?_,?_,?_,?_,?_,?_,?_,?_,?_,?_,?_,trivial⟩
   ·intro a w1 vs K HJ HK HD HN kk
    have e3:=HK 3 (by decide)
    go_simp;exact kk _ _ (by simp) HJ trivial rfl
   ·intro a w1 vs K HJ HK HD HN kk
    have e6:=hdE (HD 0 _ 6 rfl rfl rfl)
    have ca:w1.cell? ⟨qb+1,1,none⟩=some (.int .i64 (ic:Int)):=(HC.out w1 HJ).2.2.2.2.1
    go_simp;exact kk _ _ (by simp) HJ trivial rfl
   ·intro a w1 vs K HJ HK HD HN kk
    have e2:=HK 2 (by decide)
    go_simp;exact kk _ _ (by simp) HJ trivial rfl
   ·intro a w1 vs K HJ HK HD HN kk
    have e8:=hdE (HD 2 _ 8 rfl rfl rfl)
    have ca:w1.cell? ⟨qb,0,none⟩=some (.slice (some ⟨cb,co,none⟩) nc V.cc):=(HC.out w1 HJ).1
    go_simp;exact kk _ _ (by simp) HJ trivial rfl
   ·intro a w1 vs K HJ HK HD HN kk
    have e9:=hdE (HD 3 _ 9 rfl rfl rfl)
    go_simp;exact kk _ _ (by simp) HJ trivial rfl
   ·intro a w1 vs K HJ HK HD HN kk
    have e10:=hdE (HD 4 _ 10 rfl rfl rfl)
    have hws:IntKind.i64.wrap ((nc:Int) - 1)=(nc:Int) - 1:=IntWalk.i64_in _ (by omega)
    go_simp;exact kk _ _ (by simp) HJ trivial rfl
   ·intro a w1 vs K HJ HK HD HN kk
    have e7:=hdE (HD 1 _ 7 rfl rfl rfl)
    have e11:=hdE (HD 5 _ 11 rfl rfl rfl)
    exact wpo_call 46 _ _ rfl #[.int .i64 (ic:Int),.int .i64 0,.int .i64 ((nc:Int) - 1)] (by simp [Act.eval,e7,e11]) (fun args w=>by kernel_rfl)
     ((HI1.out w1).mono fun e w' ⟨he,hb⟩=>⟨_,he,kk _ _ (by simp) (Below.trans HJ (hb.mono HJ.size)) trivial rfl⟩)
   ·intro a w1 vs K HJ HK HD HN kk
    have e12:=hdE (HD 6 _ 12 rfl rfl rfl)
    go_simp;exact kk _ _ (by simp) HJ trivial rfl
   ·intro a w1 vs K HJ HK HD HN kk
    have e13:=hdE (HD 7 _ 13 rfl rfl rfl)
    go_simp;exact kk _ _ (by simp) HJ trivial rfl
   ·intro a w1 vs K HJ HK HD HN kk
    have e14:=hdE (HD 8 _ 14 rfl rfl rfl)
    rw [if_pos (wanted_yes 8 false rfl rfl rfl e14)]
    have e3:=HK 3 (by decide)
    go_simp;exact kk _ _ (by simp) HJ trivial rfl
   ·intro a w1 vs K HJ HK HD HN kk
    have e14:=hdE (HD 8 _ 14 rfl rfl rfl)
    rw [if_pos (wanted_yes 8 false rfl rfl rfl e14)]
    have e15:=hdE (HD 9 _ 15 rfl rfl rfl)
    have ca:w1.cell? ⟨qb+1,2,none⟩=some (.int .i64 (ip:Int)):=(HC.out w1 HJ).2.2.2.2.2.1
    go_simp;exact kk _ _ (by simp) HJ trivial rfl
   ·intro a w1 vs K HJ HK HD HN kk
    have e14:=hdE (HD 8 _ 14 rfl rfl rfl)
    rw [if_pos (wanted_yes 8 false rfl rfl rfl e14)]
    have e2:=HK 2 (by decide)
    go_simp;exact kk _ _ (by simp) HJ trivial rfl
   ·intro a w1 vs K HJ HK HD HN kk
    have e14:=hdE (HD 8 _ 14 rfl rfl rfl)
    rw [if_pos (wanted_yes 8 false rfl rfl rfl e14)]
    have e17:=hdE (HD 11 _ 17 rfl rfl rfl)
    have ca:w1.cell? ⟨qb,1,none⟩=some (.slice (some ⟨pb,po,none⟩) np V.pc):=(HC.out w1 HJ).2.1
    go_simp;exact kk _ _ (by simp) HJ trivial rfl
   ·intro a w1 vs K HJ HK HD HN kk
    have e14:=hdE (HD 8 _ 14 rfl rfl rfl)
    rw [if_pos (wanted_yes 8 false rfl rfl rfl e14)]
    have e18:=hdE (HD 12 _ 18 rfl rfl rfl)
    go_simp;exact kk _ _ (by simp) HJ trivial rfl
   ·intro a w1 vs K HJ HK HD HN kk
    have e14:=hdE (HD 8 _ 14 rfl rfl rfl)
    rw [if_pos (wanted_yes 8 false rfl rfl rfl e14)]
    have e19:=hdE (HD 13 _ 19 rfl rfl rfl)
    have hws:IntKind.i64.wrap ((np:Int) - 1)=(np:Int) - 1:=IntWalk.i64_in _ (by omega)
    go_simp;exact kk _ _ (by simp) HJ trivial rfl
   ·intro a w1 vs K HJ HK HD HN kk
    have e14:=hdE (HD 8 _ 14 rfl rfl rfl)
    rw [if_pos (wanted_yes 8 false rfl rfl rfl e14)]
    have e16:=hdE (HD 10 _ 16 rfl rfl rfl)
    have e20:=hdE (HD 14 _ 20 rfl rfl rfl)
    exact wpo_call 46 _ _ rfl #[.int .i64 (ip:Int),.int .i64 0,.int .i64 ((np:Int) - 1)] (by simp [Act.eval,e16,e20]) (fun args w=>by kernel_rfl)
     ((HI2.out w1).mono fun e w' ⟨he,hb⟩=>⟨_,he,kk _ _ (by simp) (Below.trans HJ (hb.mono HJ.size)) trivial rfl⟩)
   ·intro a w1 vs K HJ HK HD HN kk
    have e14:=hdE (HD 8 _ 14 rfl rfl rfl)
    rw [if_pos (wanted_yes 8 false rfl rfl rfl e14)]
    have e21:=hdE (HD 15 _ 21 rfl rfl rfl)
    go_simp;exact kk _ _ (by simp) HJ trivial rfl
   ·intro a w1 vs K HJ HK HD HN kk
    have e14:=hdE (HD 8 _ 14 rfl rfl rfl)
    have e22:=hdE (HD 16 _ 22 rfl rfl rfl)
    go_simp;exact kk _ _ (by simp) HJ trivial rfl
   ·intro a w1 vs K HJ HK HD HN kk
    have e23:=hdE (HD 17 _ 23 rfl rfl rfl)
    go_simp;exact kk _ _ (by simp) HJ trivial rfl
   ·intro a w1 vs K HJ HK HD HN kk
    have e24:=hdE (HD 18 _ 24 rfl rfl rfl)
    rw [if_pos (wanted_yes 18 false rfl rfl rfl e24)]
    have e2:=HK 2 (by decide)
    go_simp;exact kk _ _ (by simp) HJ trivial rfl
   ·intro a w1 vs K HJ HK HD HN kk
    have e24:=hdE (HD 18 _ 24 rfl rfl rfl)
    rw [if_pos (wanted_yes 18 false rfl rfl rfl e24)]
    have e25:=hdE (HD 19 _ 25 rfl rfl rfl)
    have ca:w1.cell? ⟨qb,1,none⟩=some (.slice (some ⟨pb,po,none⟩) np V.pc):=(HC.out w1 HJ).2.1
    go_simp;exact kk _ _ (by simp) HJ trivial rfl
   ·intro a w1 vs K HJ HK HD HN kk
    have e24:=hdE (HD 18 _ 24 rfl rfl rfl)
    rw [if_pos (wanted_yes 18 false rfl rfl rfl e24)]
    have e3:=HK 3 (by decide)
    go_simp;exact kk _ _ (by simp) HJ trivial rfl
   ·intro a w1 vs K HJ HK HD HN kk
    have e24:=hdE (HD 18 _ 24 rfl rfl rfl)
    rw [if_pos (wanted_yes 18 false rfl rfl rfl e24)]
    have e27:=hdE (HD 21 _ 27 rfl rfl rfl)
    have ca:w1.cell? ⟨qb+1,2,none⟩=some (.int .i64 (ip:Int)):=(HC.out w1 HJ).2.2.2.2.2.1
    go_simp;exact kk _ _ (by simp) HJ trivial rfl
   ·intro a w1 vs K HJ HK HD HN kk
    have e24:=hdE (HD 18 _ 24 rfl rfl rfl)
    rw [if_pos (wanted_yes 18 false rfl rfl rfl e24)]
    have e26:=hdE (HD 20 _ 26 rfl rfl rfl)
    have e28:=hdE (HD 22 _ 28 rfl rfl rfl)
    go_simp;exact kk _ _ (by simp) HJ trivial rfl
   ·intro a w1 vs K HJ HK HD HN kk
    have e24:=hdE (HD 18 _ 24 rfl rfl rfl)
    rw [if_pos (wanted_yes 18 false rfl rfl rfl e24)]
    have e29:=hdE (HD 23 _ 29 rfl rfl rfl)
    go_simp;exact kk _ _ (by simp) HJ trivial rfl
   ·intro a w1 vs K HJ HK HD HN kk
    have e24:=hdE (HD 18 _ 24 rfl rfl rfl)
    rw [if_pos (wanted_yes 18 false rfl rfl rfl e24)]
    have e30:=hdE (HD 24 _ 30 rfl rfl rfl)
    have ca:w1.cell? ⟨pb,po+ip * 3+2,none⟩=some (.slice (V.tA ip) nt (V.tc ip)):=(HC2.out w1 HJ).2
    go_simp;exact kk _ _ (by simp) HJ trivial rfl
   ·intro a w1 vs K HJ HK HD HN kk
    have e24:=hdE (HD 18 _ 24 rfl rfl rfl)
    rw [if_pos (wanted_yes 18 false rfl rfl rfl e24)]
    have e3:=HK 3 (by decide)
    go_simp;exact kk _ _ (by simp) HJ trivial rfl
   ·intro a w1 vs K HJ HK HD HN kk
    have e24:=hdE (HD 18 _ 24 rfl rfl rfl)
    rw [if_pos (wanted_yes 18 false rfl rfl rfl e24)]
    have e32:=hdE (HD 26 _ 32 rfl rfl rfl)
    have ca:w1.cell? ⟨qb+1,1,none⟩=some (.int .i64 (ic:Int)):=(HC.out w1 HJ).2.2.2.2.1
    go_simp;exact kk _ _ (by simp) HJ trivial rfl
   ·intro a w1 vs K HJ HK HD HN kk
    have e24:=hdE (HD 18 _ 24 rfl rfl rfl)
    rw [if_pos (wanted_yes 18 false rfl rfl rfl e24)]
    have e31:=hdE (HD 25 _ 31 rfl rfl rfl)
    have e33:=hdE (HD 27 _ 33 rfl rfl rfl)
    exact wpo_call 59 _ _ rfl #[.slice (V.tA ip) nt (V.tc ip),.int .i64 (ic:Int)] (by simp [Act.eval,e31,e33]) (fun args w=>by kernel_rfl)
     ((HCT.out w1 HJ).mono fun e w' ⟨he,hb⟩=>⟨_,he,kk _ _ (by simp) (Below.trans HJ (hb.mono HJ.size)) trivial rfl⟩)
   ·intro a w1 vs K HJ HK HD HN kk
    have e24:=hdE (HD 18 _ 24 rfl rfl rfl)
    rw [if_pos (wanted_yes 18 false rfl rfl rfl e24)]
    have e34:=hdE (HD 28 _ 34 rfl rfl rfl)
    go_simp;exact kk _ _ (by simp) HJ trivial rfl
   ·intro a w1 vs K HJ HK HD HN kk
    have e24:=hdE (HD 18 _ 24 rfl rfl rfl)
    have e35:=hdE (HD 29 _ 35 rfl rfl rfl)
    go_simp;exact kk _ _ (by simp) HJ trivial rfl
  ·intro vs w6 hw6 hrr
   have e30:vs 30=.bool true:=hrr 30 _ rfl
   have HB6:=Lib.hid hw6
   clear hrr hw6
   simp only [putAll,Act.put,List.setIfInBounds_toArray,List.set_cons_zero,List.set_cons_succ]
   rw [e30]
   go_wp2_with fail
   go_ret
   exact HFIN.out _ _ HRF.out (HB0.out.trans (HB6.out.mono HSZ.out))
 | true =>
 go_enter Tryz.func78,Tryz.ntmps78
 go_upto_region 1 with (fail)
 clear hqb hW0
 refine wp_region_steps (by kernel_rfl) (by kernel_rfl) (fun w1=>Below W0.heap.size W0 w1) (fun _ _ _=>True)
  (fun ix u _ _=>match ix with
   | 0=>u=.pointer (some ⟨qb+1,1,none⟩)
   | 1=>u=.int .i64 (ic:Int)
   | 2=>u=.pointer (some ⟨qb,0,none⟩)
   | 3=>u=.slice (some ⟨cb,co,none⟩) nc V.cc
   | 4=>u=.int .i64 nc
   | 5=>u=.int .i64 ((nc:Int) - 1)
   | 6=>u=.bool true
   | 7=>u=.bool false
   | 8=>u=.bool false
   | 9=>u=.pointer (some ⟨qb+1,2,none⟩)
   | 10=>u=.int .i64 (ip:Int)
   | 11=>u=.pointer (some ⟨qb,1,none⟩)
   | 12=>u=.slice (some ⟨pb,po,none⟩) np V.pc
   | 13=>u=.int .i64 np
   | 14=>u=.int .i64 ((np:Int) - 1)
   | 15=>u=.bool true
   | 16=>u=.bool false
   | 17=>u=.bool false
   | 18=>u=.bool false
   | 19=>u=.pointer (some ⟨qb,1,none⟩)
   | 20=>u=.slice (some ⟨pb,po,none⟩) np V.pc
   | 21=>u=.pointer (some ⟨qb+1,2,none⟩)
   | 22=>u=.int .i64 (ip:Int)
   | 23=>u=.pointer (some ⟨pb,po+ip * 3,none⟩)
   | 24=>u=.pointer (some ⟨pb,po+ip * 3+2,none⟩)
   | 25=>u=.slice (V.tA ip) nt (V.tc ip)
   | 26=>u=.pointer (some ⟨qb+1,1,none⟩)
   | 27=>u=.int .i64 (ic:Int)
   | 28=>u=.bool true
   | 29=>u=.bool false
   | _=>u=.bool false) (Below.refl _ _).drew (fun _ _ _ _ _ _ _ _ h _ _=>h) ?_ ?_
 ·refine ⟨?_,?_,?_,?_,?_,?_,?_,?_,?_,?_,?_,?_,?_,?_,?_,?_,?_,?_,?_,?_,?_,?_,?_,?_,?_,?_,?_,?_,?_,?_,?_,trivial⟩
  ·intro a w1 vs K HJ HK HD HN kk
   have e3:=HK 3 (by decide)
   go_simp;exact kk _ _ (by simp) HJ trivial rfl
  ·intro a w1 vs K HJ HK HD HN kk
   have e6:=hdE (HD 0 _ 6 rfl rfl rfl)
   have ca:w1.cell? ⟨qb+1,1,none⟩=some (.int .i64 (ic:Int)):=(HC.out w1 HJ).2.2.2.2.1
   go_simp;exact kk _ _ (by simp) HJ trivial rfl
  ·intro a w1 vs K HJ HK HD HN kk
   have e2:=HK 2 (by decide)
   go_simp;exact kk _ _ (by simp) HJ trivial rfl
  ·intro a w1 vs K HJ HK HD HN kk
   have e8:=hdE (HD 2 _ 8 rfl rfl rfl)
   have ca:w1.cell? ⟨qb,0,none⟩=some (.slice (some ⟨cb,co,none⟩) nc V.cc):=(HC.out w1 HJ).1
   go_simp;exact kk _ _ (by simp) HJ trivial rfl
  ·intro a w1 vs K HJ HK HD HN kk
   have e9:=hdE (HD 3 _ 9 rfl rfl rfl)
   go_simp;exact kk _ _ (by simp) HJ trivial rfl
  ·intro a w1 vs K HJ HK HD HN kk
   have e10:=hdE (HD 4 _ 10 rfl rfl rfl)
   have hws:IntKind.i64.wrap ((nc:Int) - 1)=(nc:Int) - 1:=IntWalk.i64_in _ (by omega)
   go_simp;exact kk _ _ (by simp) HJ trivial rfl
  ·intro a w1 vs K HJ HK HD HN kk
   have e7:=hdE (HD 1 _ 7 rfl rfl rfl)
   have e11:=hdE (HD 5 _ 11 rfl rfl rfl)
   exact wpo_call 46 _ _ rfl #[.int .i64 (ic:Int),.int .i64 0,.int .i64 ((nc:Int) - 1)] (by simp [Act.eval,e7,e11]) (fun args w=>by kernel_rfl)
    ((HI1.out w1).mono fun e w' ⟨he,hb⟩=>⟨_,he,kk _ _ (by simp) (Below.trans HJ (hb.mono HJ.size)) trivial rfl⟩)
  ·intro a w1 vs K HJ HK HD HN kk
   have e12:=hdE (HD 6 _ 12 rfl rfl rfl)
   go_simp;exact kk _ _ (by simp) HJ trivial rfl
  ·intro a w1 vs K HJ HK HD HN kk
   have e13:=hdE (HD 7 _ 13 rfl rfl rfl)
   go_simp;exact kk _ _ (by simp) HJ trivial rfl
  ·intro a w1 vs K HJ HK HD HN kk
   have e14:=hdE (HD 8 _ 14 rfl rfl rfl)
   rw [if_pos (wanted_yes 8 false rfl rfl rfl e14)]
   have e3:=HK 3 (by decide)
   go_simp;exact kk _ _ (by simp) HJ trivial rfl
  ·intro a w1 vs K HJ HK HD HN kk
   have e14:=hdE (HD 8 _ 14 rfl rfl rfl)
   rw [if_pos (wanted_yes 8 false rfl rfl rfl e14)]
   have e15:=hdE (HD 9 _ 15 rfl rfl rfl)
   have ca:w1.cell? ⟨qb+1,2,none⟩=some (.int .i64 (ip:Int)):=(HC.out w1 HJ).2.2.2.2.2.1
   go_simp;exact kk _ _ (by simp) HJ trivial rfl
  ·intro a w1 vs K HJ HK HD HN kk
   have e14:=hdE (HD 8 _ 14 rfl rfl rfl)
   rw [if_pos (wanted_yes 8 false rfl rfl rfl e14)]
   have e2:=HK 2 (by decide)
   go_simp;exact kk _ _ (by simp) HJ trivial rfl
  ·intro a w1 vs K HJ HK HD HN kk
   have e14:=hdE (HD 8 _ 14 rfl rfl rfl)
   rw [if_pos (wanted_yes 8 false rfl rfl rfl e14)]
   have e17:=hdE (HD 11 _ 17 rfl rfl rfl)
   have ca:w1.cell? ⟨qb,1,none⟩=some (.slice (some ⟨pb,po,none⟩) np V.pc):=(HC.out w1 HJ).2.1
   go_simp;exact kk _ _ (by simp) HJ trivial rfl
  ·intro a w1 vs K HJ HK HD HN kk
   have e14:=hdE (HD 8 _ 14 rfl rfl rfl)
   rw [if_pos (wanted_yes 8 false rfl rfl rfl e14)]
   have e18:=hdE (HD 12 _ 18 rfl rfl rfl)
   go_simp;exact kk _ _ (by simp) HJ trivial rfl
  ·intro a w1 vs K HJ HK HD HN kk
   have e14:=hdE (HD 8 _ 14 rfl rfl rfl)
   rw [if_pos (wanted_yes 8 false rfl rfl rfl e14)]
   have e19:=hdE (HD 13 _ 19 rfl rfl rfl)
   have hws:IntKind.i64.wrap ((np:Int) - 1)=(np:Int) - 1:=IntWalk.i64_in _ (by omega)
   go_simp;exact kk _ _ (by simp) HJ trivial rfl
  ·intro a w1 vs K HJ HK HD HN kk
   have e14:=hdE (HD 8 _ 14 rfl rfl rfl)
   rw [if_pos (wanted_yes 8 false rfl rfl rfl e14)]
   have e16:=hdE (HD 10 _ 16 rfl rfl rfl)
   have e20:=hdE (HD 14 _ 20 rfl rfl rfl)
   exact wpo_call 46 _ _ rfl #[.int .i64 (ip:Int),.int .i64 0,.int .i64 ((np:Int) - 1)] (by simp [Act.eval,e16,e20]) (fun args w=>by kernel_rfl)
    ((HI2.out w1).mono fun e w' ⟨he,hb⟩=>⟨_,he,kk _ _ (by simp) (Below.trans HJ (hb.mono HJ.size)) trivial rfl⟩)
  ·intro a w1 vs K HJ HK HD HN kk
   have e14:=hdE (HD 8 _ 14 rfl rfl rfl)
   rw [if_pos (wanted_yes 8 false rfl rfl rfl e14)]
   have e21:=hdE (HD 15 _ 21 rfl rfl rfl)
   go_simp;exact kk _ _ (by simp) HJ trivial rfl
  ·intro a w1 vs K HJ HK HD HN kk
   have e14:=hdE (HD 8 _ 14 rfl rfl rfl)
   have e22:=hdE (HD 16 _ 22 rfl rfl rfl)
   go_simp;exact kk _ _ (by simp) HJ trivial rfl
  ·intro a w1 vs K HJ HK HD HN kk
   have e23:=hdE (HD 17 _ 23 rfl rfl rfl)
   go_simp;exact kk _ _ (by simp) HJ trivial rfl
  ·intro a w1 vs K HJ HK HD HN kk
   have e24:=hdE (HD 18 _ 24 rfl rfl rfl)
   rw [if_pos (wanted_yes 18 false rfl rfl rfl e24)]
   have e2:=HK 2 (by decide)
   go_simp;exact kk _ _ (by simp) HJ trivial rfl
  ·intro a w1 vs K HJ HK HD HN kk
   have e24:=hdE (HD 18 _ 24 rfl rfl rfl)
   rw [if_pos (wanted_yes 18 false rfl rfl rfl e24)]
   have e25:=hdE (HD 19 _ 25 rfl rfl rfl)
   have ca:w1.cell? ⟨qb,1,none⟩=some (.slice (some ⟨pb,po,none⟩) np V.pc):=(HC.out w1 HJ).2.1
   go_simp;exact kk _ _ (by simp) HJ trivial rfl
  ·intro a w1 vs K HJ HK HD HN kk
   have e24:=hdE (HD 18 _ 24 rfl rfl rfl)
   rw [if_pos (wanted_yes 18 false rfl rfl rfl e24)]
   have e3:=HK 3 (by decide)
   go_simp;exact kk _ _ (by simp) HJ trivial rfl
  ·intro a w1 vs K HJ HK HD HN kk
   have e24:=hdE (HD 18 _ 24 rfl rfl rfl)
   rw [if_pos (wanted_yes 18 false rfl rfl rfl e24)]
   have e27:=hdE (HD 21 _ 27 rfl rfl rfl)
   have ca:w1.cell? ⟨qb+1,2,none⟩=some (.int .i64 (ip:Int)):=(HC.out w1 HJ).2.2.2.2.2.1
   go_simp;exact kk _ _ (by simp) HJ trivial rfl
  ·intro a w1 vs K HJ HK HD HN kk
   have e24:=hdE (HD 18 _ 24 rfl rfl rfl)
   rw [if_pos (wanted_yes 18 false rfl rfl rfl e24)]
   have e26:=hdE (HD 20 _ 26 rfl rfl rfl)
   have e28:=hdE (HD 22 _ 28 rfl rfl rfl)
   go_simp;exact kk _ _ (by simp) HJ trivial rfl
  ·intro a w1 vs K HJ HK HD HN kk
   have e24:=hdE (HD 18 _ 24 rfl rfl rfl)
   rw [if_pos (wanted_yes 18 false rfl rfl rfl e24)]
   have e29:=hdE (HD 23 _ 29 rfl rfl rfl)
   go_simp;exact kk _ _ (by simp) HJ trivial rfl
  ·intro a w1 vs K HJ HK HD HN kk
   have e24:=hdE (HD 18 _ 24 rfl rfl rfl)
   rw [if_pos (wanted_yes 18 false rfl rfl rfl e24)]
   have e30:=hdE (HD 24 _ 30 rfl rfl rfl)
   have ca:w1.cell? ⟨pb,po+ip * 3+2,none⟩=some (.slice (V.tA ip) nt (V.tc ip)):=(HC2.out w1 HJ).2
   go_simp;exact kk _ _ (by simp) HJ trivial rfl
  ·intro a w1 vs K HJ HK HD HN kk
   have e24:=hdE (HD 18 _ 24 rfl rfl rfl)
   rw [if_pos (wanted_yes 18 false rfl rfl rfl e24)]
   have e3:=HK 3 (by decide)
   go_simp;exact kk _ _ (by simp) HJ trivial rfl
  ·intro a w1 vs K HJ HK HD HN kk
   have e24:=hdE (HD 18 _ 24 rfl rfl rfl)
   rw [if_pos (wanted_yes 18 false rfl rfl rfl e24)]
   have e32:=hdE (HD 26 _ 32 rfl rfl rfl)
   have ca:w1.cell? ⟨qb+1,1,none⟩=some (.int .i64 (ic:Int)):=(HC.out w1 HJ).2.2.2.2.1
   go_simp;exact kk _ _ (by simp) HJ trivial rfl
  ·intro a w1 vs K HJ HK HD HN kk
   have e24:=hdE (HD 18 _ 24 rfl rfl rfl)
   rw [if_pos (wanted_yes 18 false rfl rfl rfl e24)]
   have e31:=hdE (HD 25 _ 31 rfl rfl rfl)
   have e33:=hdE (HD 27 _ 33 rfl rfl rfl)
   exact wpo_call 59 _ _ rfl #[.slice (V.tA ip) nt (V.tc ip),.int .i64 (ic:Int)] (by simp [Act.eval,e31,e33]) (fun args w=>by kernel_rfl)
    ((HCT.out w1 HJ).mono fun e w' ⟨he,hb⟩=>⟨_,he,kk _ _ (by simp) (Below.trans HJ (hb.mono HJ.size)) trivial rfl⟩)
  ·intro a w1 vs K HJ HK HD HN kk
   have e24:=hdE (HD 18 _ 24 rfl rfl rfl)
   rw [if_pos (wanted_yes 18 false rfl rfl rfl e24)]
   have e34:=hdE (HD 28 _ 34 rfl rfl rfl)
   go_simp;exact kk _ _ (by simp) HJ trivial rfl
  ·intro a w1 vs K HJ HK HD HN kk
   have e24:=hdE (HD 18 _ 24 rfl rfl rfl)
   have e35:=hdE (HD 29 _ 35 rfl rfl rfl)
   go_simp;exact kk _ _ (by simp) HJ trivial rfl
 ·intro vs W1 hw6 hrr
  have e30:vs 30=.bool false:=hrr 30 _ rfl
  have HB1W:=Lib.hid hw6
  clear hrr hw6
  simp only [putAll,Act.put,List.setIfInBounds_toArray,List.set_cons_zero,List.set_cons_succ]
  rw [e30]
  go_wp2_with fail
  obtain ⟨b4,hb4⟩:∃ b,inB x.day rd 10000=b:=⟨_,rfl⟩
  have HI4:Hid (∀ w1,Calls Tryz.prog 46 #[.int .i64 x.day,.int .i64 rd,.int .i64 10000] w1 fun e w'=>e=.returned (.bool b4)∧Below w1.heap.size w1 w'):=Lib.hid fun w1=>by rw [← hb4];exact within_below _ _ _ _
  have HB4:Hid (inB x.day (c.craft x.craft).ready 10000=b4):=Lib.hid (by rw [HRD.out];exact hb4)
  obtain ⟨b6,hb6⟩:∃ b,risingB x.cargos ng=b:=⟨_,rfl⟩
  have HI6:Hid (∀ w1,Below W0.heap.size W0 w1→Calls Tryz.prog 48 #[.slice A nl cl,.int .i64 (ng:Int)] w1 fun e w'=>e=.returned (.bool b6)∧Below w1.heap.size w1 w'):=Lib.hid fun w1 hb=>by
   rw [← hb6,← HNL.out]
   exact (rising_any w1 A cl x.cargos ng (HLA.out.later hb)).mono fun e w' ⟨a,b⟩=>⟨a,by rw [b];exact Below.refl _ _⟩
  have HB6':Hid (risingB x.cargos c.cargos.length=b6):=Lib.hid (by rw [HNG.out];exact hb6)
  have HS1:Hid (W0.heap.size≤W1.heap.size):=Lib.hid HB1W.out.size
  clear hb4 hb6
  cases b4 with
  | false =>
   have HRF:Hid (false=R):=Lib.hid (by rw [← HR.out];exact (possB_no4 HB4.out).symm)
   refine wp_region_steps (by kernel_rfl) (by kernel_rfl) (fun w1=>Below W0.heap.size W0 w1) (fun _ _ _=>True)
    (fun ix u _ _=>match ix with
     | 0=>u=.pointer (some ⟨qb+1,0,none⟩)
     | 1=>u=.int .i64 x.day
     | 2=>u=.pointer (some ⟨qb,0,none⟩)
     | 3=>u=.slice (some ⟨cb,co,none⟩) nc V.cc
     | 4=>u=.pointer (some ⟨qb+1,1,none⟩)
     | 5=>u=.int .i64 (ic:Int)
     | 6=>u=.pointer (some ⟨cb,co+ic * 4,none⟩)
     | 7=>u=.pointer (some ⟨cb,co+ic * 4+2,none⟩)
     | 8=>u=.int .i64 rd
     | 9=>u=.bool false
     | 10=>u=.bool true
     | 11=>u=.bool true
     | 12=>True
     | 13=>True
     | 14=>True
     | 15=>True
     | 16=>u=.bool true
     | 17=>u=.bool true
     | 18=>True
     | 19=>True
     | 20=>True
     | 21=>True
     | 22=>True
     | 23=>True
     | 24=>True
     | _=>u=.bool true) HB1W.out.drew (fun _ _ _ _ _ _ _ _ h _ _=>h) ?_ ?_
   ·refine ⟨?_,?_,?_,?_,?_,?_,?_,?_,?_,?_,?_,?_,?_,?_,?_,?_,?_,?_,?_,?_,?_,?_,?_,?_,?_,?_,trivial⟩
    ·intro a w1 vs K HJ HK HD HN kk
     have e3:=HK 3 (by decide)
     go_simp;exact kk _ _ (by simp) HJ trivial rfl
    ·intro a w1 vs K HJ HK HD HN kk
     have e37:=hdE (HD 0 _ 37 rfl rfl rfl)
     have ca:w1.cell? ⟨qb+1,0,none⟩=some (.int .i64 x.day):=(HC.out w1 HJ).2.2.2.1
     go_simp;exact kk _ _ (by simp) HJ trivial rfl
    ·intro a w1 vs K HJ HK HD HN kk
     have e2:=HK 2 (by decide)
     go_simp;exact kk _ _ (by simp) HJ trivial rfl
    ·intro a w1 vs K HJ HK HD HN kk
     have e39:=hdE (HD 2 _ 39 rfl rfl rfl)
     have ca:w1.cell? ⟨qb,0,none⟩=some (.slice (some ⟨cb,co,none⟩) nc V.cc):=(HC.out w1 HJ).1
     go_simp;exact kk _ _ (by simp) HJ trivial rfl
    ·intro a w1 vs K HJ HK HD HN kk
     have e3:=HK 3 (by decide)
     go_simp;exact kk _ _ (by simp) HJ trivial rfl
    ·intro a w1 vs K HJ HK HD HN kk
     have e41:=hdE (HD 4 _ 41 rfl rfl rfl)
     have ca:w1.cell? ⟨qb+1,1,none⟩=some (.int .i64 (ic:Int)):=(HC.out w1 HJ).2.2.2.2.1
     go_simp;exact kk _ _ (by simp) HJ trivial rfl
    ·intro a w1 vs K HJ HK HD HN kk
     have e40:=hdE (HD 3 _ 40 rfl rfl rfl)
     have e42:=hdE (HD 5 _ 42 rfl rfl rfl)
     go_simp;exact kk _ _ (by simp) HJ trivial rfl
    ·intro a w1 vs K HJ HK HD HN kk
     have e43:=hdE (HD 6 _ 43 rfl rfl rfl)
     go_simp;exact kk _ _ (by simp) HJ trivial rfl
    ·intro a w1 vs K HJ HK HD HN kk
     have e44:=hdE (HD 7 _ 44 rfl rfl rfl)
     have ca:w1.cell? ⟨cb,co+ic * 4+2,none⟩=some (.int .i64 rd):=(HC2.out w1 HJ).1
     go_simp;exact kk _ _ (by simp) HJ trivial rfl
    ·intro a w1 vs K HJ HK HD HN kk
     have e38:=hdE (HD 1 _ 38 rfl rfl rfl)
     have e45:=hdE (HD 8 _ 45 rfl rfl rfl)
     exact wpo_call 46 _ _ rfl #[.int .i64 x.day,.int .i64 rd,.int .i64 10000] (by simp [Act.eval,e38,e45]) (fun args w=>by kernel_rfl)
      ((HI4.out w1).mono fun e w' ⟨he,hb⟩=>⟨_,he,kk _ _ (by simp) (Below.trans HJ (hb.mono HJ.size)) trivial rfl⟩)
    ·intro a w1 vs K HJ HK HD HN kk
     have e46:=hdE (HD 9 _ 46 rfl rfl rfl)
     go_simp;exact kk _ _ (by simp) HJ trivial rfl
    ·intro a w1 vs K HJ HK HD HN kk
     have e47:=hdE (HD 10 _ 47 rfl rfl rfl)
     go_simp;exact kk _ _ (by simp) HJ trivial rfl
    ·intro a w1 vs K HJ HK HD HN kk
     have e48:=hdE (HD 11 _ 48 rfl rfl rfl)
     rw [if_neg (wanted_no 11 false rfl rfl rfl e48)]
     exact kk undef _ (by simp) HJ trivial trivial
    ·intro a w1 vs K HJ HK HD HN kk
     have e48:=hdE (HD 11 _ 48 rfl rfl rfl)
     rw [if_neg (wanted_no 11 false rfl rfl rfl e48)]
     exact kk undef _ (by simp) HJ trivial trivial
    ·intro a w1 vs K HJ HK HD HN kk
     have e48:=hdE (HD 11 _ 48 rfl rfl rfl)
     rw [if_neg (wanted_no 11 false rfl rfl rfl e48)]
     exact kk undef _ (by simp) HJ trivial trivial
    ·intro a w1 vs K HJ HK HD HN kk
     have e48:=hdE (HD 11 _ 48 rfl rfl rfl)
     rw [if_neg (wanted_no 11 false rfl rfl rfl e48)]
     exact kk undef _ (by simp) HJ trivial trivial
    ·intro a w1 vs K HJ HK HD HN kk
     have e48:=hdE (HD 11 _ 48 rfl rfl rfl)
     go_simp;exact kk _ _ (by simp) HJ trivial rfl
    ·intro a w1 vs K HJ HK HD HN kk
     have e53:=hdE (HD 16 _ 53 rfl rfl rfl)
     go_simp;exact kk _ _ (by simp) HJ trivial rfl
    ·intro a w1 vs K HJ HK HD HN kk
     have e54:=hdE (HD 17 _ 54 rfl rfl rfl)
     rw [if_neg (wanted_no 17 false rfl rfl rfl e54)]
     exact kk undef _ (by simp) HJ trivial trivial
    ·intro a w1 vs K HJ HK HD HN kk
     have e54:=hdE (HD 17 _ 54 rfl rfl rfl)
     rw [if_neg (wanted_no 17 false rfl rfl rfl e54)]
     exact kk undef _ (by simp) HJ trivial trivial
    ·intro a w1 vs K HJ HK HD HN kk
     have e54:=hdE (HD 17 _ 54 rfl rfl rfl)
     rw [if_neg (wanted_no 17 false rfl rfl rfl e54)]
     exact kk undef _ (by simp) HJ trivial trivial
    ·intro a w1 vs K HJ HK HD HN kk
     have e54:=hdE (HD 17 _ 54 rfl rfl rfl)
     rw [if_neg (wanted_no 17 false rfl rfl rfl e54)]
     exact kk undef _ (by simp) HJ trivial trivial
    ·intro a w1 vs K HJ HK HD HN kk
     have e54:=hdE (HD 17 _ 54 rfl rfl rfl)
     rw [if_neg (wanted_no 17 false rfl rfl rfl e54)]
     exact kk undef _ (by simp) HJ trivial trivial
    ·intro a w1 vs K HJ HK HD HN kk
     have e54:=hdE (HD 17 _ 54 rfl rfl rfl)
     rw [if_neg (wanted_no 17 false rfl rfl rfl e54)]
     exact kk undef _ (by simp) HJ trivial trivial
    ·intro a w1 vs K HJ HK HD HN kk
     have e54:=hdE (HD 17 _ 54 rfl rfl rfl)
     rw [if_neg (wanted_no 17 false rfl rfl rfl e54)]
     exact kk undef _ (by simp) HJ trivial trivial
    ·intro a w1 vs K HJ HK HD HN kk
     have e54:=hdE (HD 17 _ 54 rfl rfl rfl)
     go_simp;exact kk _ _ (by simp) HJ trivial rfl
   ·intro vs w6 hw6 hrr
    have e25:vs 25=.bool true:=hrr 25 _ rfl
    have HB6:=Lib.hid hw6
    clear hrr hw6
    simp only [putAll,Act.put,List.setIfInBounds_toArray,List.set_cons_zero,List.set_cons_succ]
    rw [e25]
    go_wp2_with fail
    go_ret
    exact HFIN.out _ _ HRF.out (HB0.out.trans (HB6.out.mono HSZ.out))
  | true =>
  rcases Nat.eq_zero_or_pos nl with hz | hz
  ·have HRF:Hid (false=R):=Lib.hid (by rw [← HR.out];exact (possB_no5 (List.length_eq_zero_iff.1 (HNL.out.trans hz))).symm)
   subst hz
   refine wp_region_steps (by kernel_rfl) (by kernel_rfl) (fun w1=>Below W0.heap.size W0 w1) (fun _ _ _=>True)
    (fun ix u _ _=>match ix with
     | 0=>u=.pointer (some ⟨qb+1,0,none⟩)
     | 1=>u=.int .i64 x.day
     | 2=>u=.pointer (some ⟨qb,0,none⟩)
     | 3=>u=.slice (some ⟨cb,co,none⟩) nc V.cc
     | 4=>u=.pointer (some ⟨qb+1,1,none⟩)
     | 5=>u=.int .i64 (ic:Int)
     | 6=>u=.pointer (some ⟨cb,co+ic * 4,none⟩)
     | 7=>u=.pointer (some ⟨cb,co+ic * 4+2,none⟩)
     | 8=>u=.int .i64 rd
     | 9=>u=.bool true
     | 10=>u=.bool false
     | 11=>u=.bool false
     | 12=>u=.pointer (some ⟨qb+1,3,none⟩)
     | 13=>u=.slice A 0 cl
     | 14=>u=.int .i64 0
     | 15=>u=.bool true
     | 16=>u=.bool true
     | 17=>u=.bool true
     | 18=>True
     | 19=>True
     | 20=>True
     | 21=>True
     | 22=>True
     | 23=>True
     | 24=>True
     | _=>u=.bool true) HB1W.out.drew (fun _ _ _ _ _ _ _ _ h _ _=>h) ?_ ?_
   ·refine ⟨?_,?_,?_,?_,?_,?_,?_,?_,?_,?_,?_,?_,?_,?_,?_,?_,?_,?_,?_,?_,?_,?_,?_,?_,?_,?_,trivial⟩
    ·intro a w1 vs K HJ HK HD HN kk
     have e3:=HK 3 (by decide)
     go_simp;exact kk _ _ (by simp) HJ trivial rfl
    ·intro a w1 vs K HJ HK HD HN kk
     have e37:=hdE (HD 0 _ 37 rfl rfl rfl)
     have ca:w1.cell? ⟨qb+1,0,none⟩=some (.int .i64 x.day):=(HC.out w1 HJ).2.2.2.1
     go_simp;exact kk _ _ (by simp) HJ trivial rfl
    ·intro a w1 vs K HJ HK HD HN kk
     have e2:=HK 2 (by decide)
     go_simp;exact kk _ _ (by simp) HJ trivial rfl
    ·intro a w1 vs K HJ HK HD HN kk
     have e39:=hdE (HD 2 _ 39 rfl rfl rfl)
     have ca:w1.cell? ⟨qb,0,none⟩=some (.slice (some ⟨cb,co,none⟩) nc V.cc):=(HC.out w1 HJ).1
     go_simp;exact kk _ _ (by simp) HJ trivial rfl
    ·intro a w1 vs K HJ HK HD HN kk
     have e3:=HK 3 (by decide)
     go_simp;exact kk _ _ (by simp) HJ trivial rfl
    ·intro a w1 vs K HJ HK HD HN kk
     have e41:=hdE (HD 4 _ 41 rfl rfl rfl)
     have ca:w1.cell? ⟨qb+1,1,none⟩=some (.int .i64 (ic:Int)):=(HC.out w1 HJ).2.2.2.2.1
     go_simp;exact kk _ _ (by simp) HJ trivial rfl
    ·intro a w1 vs K HJ HK HD HN kk
     have e40:=hdE (HD 3 _ 40 rfl rfl rfl)
     have e42:=hdE (HD 5 _ 42 rfl rfl rfl)
     go_simp;exact kk _ _ (by simp) HJ trivial rfl
    ·intro a w1 vs K HJ HK HD HN kk
     have e43:=hdE (HD 6 _ 43 rfl rfl rfl)
     go_simp;exact kk _ _ (by simp) HJ trivial rfl
    ·intro a w1 vs K HJ HK HD HN kk
     have e44:=hdE (HD 7 _ 44 rfl rfl rfl)
     have ca:w1.cell? ⟨cb,co+ic * 4+2,none⟩=some (.int .i64 rd):=(HC2.out w1 HJ).1
     go_simp;exact kk _ _ (by simp) HJ trivial rfl
    ·intro a w1 vs K HJ HK HD HN kk
     have e38:=hdE (HD 1 _ 38 rfl rfl rfl)
     have e45:=hdE (HD 8 _ 45 rfl rfl rfl)
     exact wpo_call 46 _ _ rfl #[.int .i64 x.day,.int .i64 rd,.int .i64 10000] (by simp [Act.eval,e38,e45]) (fun args w=>by kernel_rfl)
      ((HI4.out w1).mono fun e w' ⟨he,hb⟩=>⟨_,he,kk _ _ (by simp) (Below.trans HJ (hb.mono HJ.size)) trivial rfl⟩)
    ·intro a w1 vs K HJ HK HD HN kk
     have e46:=hdE (HD 9 _ 46 rfl rfl rfl)
     go_simp;exact kk _ _ (by simp) HJ trivial rfl
    ·intro a w1 vs K HJ HK HD HN kk
     have e47:=hdE (HD 10 _ 47 rfl rfl rfl)
     go_simp;exact kk _ _ (by simp) HJ trivial rfl
    ·intro a w1 vs K HJ HK HD HN kk
     have e48:=hdE (HD 11 _ 48 rfl rfl rfl)
     rw [if_pos (wanted_yes 11 false rfl rfl rfl e48)]
     have e3:=HK 3 (by decide)
     go_simp;exact kk _ _ (by simp) HJ trivial rfl
    ·intro a w1 vs K HJ HK HD HN kk
     have e48:=hdE (HD 11 _ 48 rfl rfl rfl)
     rw [if_pos (wanted_yes 11 false rfl rfl rfl e48)]
     have e49:=hdE (HD 12 _ 49 rfl rfl rfl)
     have ca:w1.cell? ⟨qb+1,3,none⟩=some (.slice A 0 cl):=(HC.out w1 HJ).2.2.2.2.2.2
     go_simp;exact kk _ _ (by simp) HJ trivial rfl
    ·intro a w1 vs K HJ HK HD HN kk
     have e48:=hdE (HD 11 _ 48 rfl rfl rfl)
     rw [if_pos (wanted_yes 11 false rfl rfl rfl e48)]
     have e50:=hdE (HD 13 _ 50 rfl rfl rfl)
     go_simp;exact kk _ _ (by simp) HJ trivial rfl
    ·intro a w1 vs K HJ HK HD HN kk
     have e48:=hdE (HD 11 _ 48 rfl rfl rfl)
     rw [if_pos (wanted_yes 11 false rfl rfl rfl e48)]
     have e51:=hdE (HD 14 _ 51 rfl rfl rfl)
     go_simp;exact kk _ _ (by simp) HJ trivial rfl
    ·intro a w1 vs K HJ HK HD HN kk
     have e48:=hdE (HD 11 _ 48 rfl rfl rfl)
     have e52:=hdE (HD 15 _ 52 rfl rfl rfl)
     go_simp;exact kk _ _ (by simp) HJ trivial rfl
    ·intro a w1 vs K HJ HK HD HN kk
     have e53:=hdE (HD 16 _ 53 rfl rfl rfl)
     go_simp;exact kk _ _ (by simp) HJ trivial rfl
    ·intro a w1 vs K HJ HK HD HN kk
     have e54:=hdE (HD 17 _ 54 rfl rfl rfl)
     rw [if_neg (wanted_no 17 false rfl rfl rfl e54)]
     exact kk undef _ (by simp) HJ trivial trivial
    ·intro a w1 vs K HJ HK HD HN kk
     have e54:=hdE (HD 17 _ 54 rfl rfl rfl)
     rw [if_neg (wanted_no 17 false rfl rfl rfl e54)]
     exact kk undef _ (by simp) HJ trivial trivial
    ·intro a w1 vs K HJ HK HD HN kk
     have e54:=hdE (HD 17 _ 54 rfl rfl rfl)
     rw [if_neg (wanted_no 17 false rfl rfl rfl e54)]
     exact kk undef _ (by simp) HJ trivial trivial
    ·intro a w1 vs K HJ HK HD HN kk
     have e54:=hdE (HD 17 _ 54 rfl rfl rfl)
     rw [if_neg (wanted_no 17 false rfl rfl rfl e54)]
     exact kk undef _ (by simp) HJ trivial trivial
    ·intro a w1 vs K HJ HK HD HN kk
     have e54:=hdE (HD 17 _ 54 rfl rfl rfl)
     rw [if_neg (wanted_no 17 false rfl rfl rfl e54)]
     exact kk undef _ (by simp) HJ trivial trivial
    ·intro a w1 vs K HJ HK HD HN kk
     have e54:=hdE (HD 17 _ 54 rfl rfl rfl)
     rw [if_neg (wanted_no 17 false rfl rfl rfl e54)]
     exact kk undef _ (by simp) HJ trivial trivial
    ·intro a w1 vs K HJ HK HD HN kk
     have e54:=hdE (HD 17 _ 54 rfl rfl rfl)
     rw [if_neg (wanted_no 17 false rfl rfl rfl e54)]
     exact kk undef _ (by simp) HJ trivial trivial
    ·intro a w1 vs K HJ HK HD HN kk
     have e54:=hdE (HD 17 _ 54 rfl rfl rfl)
     go_simp;exact kk _ _ (by simp) HJ trivial rfl
   ·intro vs w6 hw6 hrr
    have e25:vs 25=.bool true:=hrr 25 _ rfl
    have HB6:=Lib.hid hw6
    clear hrr hw6
    simp only [putAll,Act.put,List.setIfInBounds_toArray,List.set_cons_zero,List.set_cons_succ]
    rw [e25]
    go_wp2_with fail
    go_ret
    exact HFIN.out _ _ HRF.out (HB0.out.trans (HB6.out.mono HSZ.out))
  have HZ:Hid (x.cargos ≠ []):=Lib.hid fun e=>by have:=HNL.out;rw [e] at this;simp at this;omega
  have hzi:((nl:Int) == 0)=false:=by rw [beq_eq_false_iff_ne];omega
  cases b6 with
  | false =>
   have HRF:Hid (false=R):=Lib.hid (by rw [← HR.out];exact (possB_no6 HB6'.out).symm)
   refine wp_region_steps (by kernel_rfl) (by kernel_rfl) (fun w1=>Below W0.heap.size W0 w1) (fun _ _ _=>True)
    (fun ix u _ _=>match ix with
     | 0=>u=.pointer (some ⟨qb+1,0,none⟩)
     | 1=>u=.int .i64 x.day
     | 2=>u=.pointer (some ⟨qb,0,none⟩)
     | 3=>u=.slice (some ⟨cb,co,none⟩) nc V.cc
     | 4=>u=.pointer (some ⟨qb+1,1,none⟩)
     | 5=>u=.int .i64 (ic:Int)
     | 6=>u=.pointer (some ⟨cb,co+ic * 4,none⟩)
     | 7=>u=.pointer (some ⟨cb,co+ic * 4+2,none⟩)
     | 8=>u=.int .i64 rd
     | 9=>u=.bool true
     | 10=>u=.bool false
     | 11=>u=.bool false
     | 12=>u=.pointer (some ⟨qb+1,3,none⟩)
     | 13=>u=.slice A nl cl
     | 14=>u=.int .i64 nl
     | 15=>u=.bool false
     | 16=>u=.bool false
     | 17=>u=.bool false
     | 18=>u=.pointer (some ⟨qb+1,3,none⟩)
     | 19=>u=.slice A nl cl
     | 20=>u=.pointer (some ⟨qb,2,none⟩)
     | 21=>u=.slice V.gA ng V.gc
     | 22=>u=.int .i64 ng
     | 23=>u=.bool false
     | 24=>u=.bool true
     | _=>u=.bool true) HB1W.out.drew (fun _ _ _ _ _ _ _ _ h _ _=>h) ?_ ?_
   ·refine ⟨?_,?_,?_,?_,?_,?_,?_,?_,?_,?_,?_,?_,?_,?_,?_,?_,?_,?_,?_,?_,?_,?_,?_,?_,?_,?_,trivial⟩
    ·intro a w1 vs K HJ HK HD HN kk
     have e3:=HK 3 (by decide)
     go_simp;exact kk _ _ (by simp) HJ trivial rfl
    ·intro a w1 vs K HJ HK HD HN kk
     have e37:=hdE (HD 0 _ 37 rfl rfl rfl)
     have ca:w1.cell? ⟨qb+1,0,none⟩=some (.int .i64 x.day):=(HC.out w1 HJ).2.2.2.1
     go_simp;exact kk _ _ (by simp) HJ trivial rfl
    ·intro a w1 vs K HJ HK HD HN kk
     have e2:=HK 2 (by decide)
     go_simp;exact kk _ _ (by simp) HJ trivial rfl
    ·intro a w1 vs K HJ HK HD HN kk
     have e39:=hdE (HD 2 _ 39 rfl rfl rfl)
     have ca:w1.cell? ⟨qb,0,none⟩=some (.slice (some ⟨cb,co,none⟩) nc V.cc):=(HC.out w1 HJ).1
     go_simp;exact kk _ _ (by simp) HJ trivial rfl
    ·intro a w1 vs K HJ HK HD HN kk
     have e3:=HK 3 (by decide)
     go_simp;exact kk _ _ (by simp) HJ trivial rfl
    ·intro a w1 vs K HJ HK HD HN kk
     have e41:=hdE (HD 4 _ 41 rfl rfl rfl)
     have ca:w1.cell? ⟨qb+1,1,none⟩=some (.int .i64 (ic:Int)):=(HC.out w1 HJ).2.2.2.2.1
     go_simp;exact kk _ _ (by simp) HJ trivial rfl
    ·intro a w1 vs K HJ HK HD HN kk
     have e40:=hdE (HD 3 _ 40 rfl rfl rfl)
     have e42:=hdE (HD 5 _ 42 rfl rfl rfl)
     go_simp;exact kk _ _ (by simp) HJ trivial rfl
    ·intro a w1 vs K HJ HK HD HN kk
     have e43:=hdE (HD 6 _ 43 rfl rfl rfl)
     go_simp;exact kk _ _ (by simp) HJ trivial rfl
    ·intro a w1 vs K HJ HK HD HN kk
     have e44:=hdE (HD 7 _ 44 rfl rfl rfl)
     have ca:w1.cell? ⟨cb,co+ic * 4+2,none⟩=some (.int .i64 rd):=(HC2.out w1 HJ).1
     go_simp;exact kk _ _ (by simp) HJ trivial rfl
    ·intro a w1 vs K HJ HK HD HN kk
     have e38:=hdE (HD 1 _ 38 rfl rfl rfl)
     have e45:=hdE (HD 8 _ 45 rfl rfl rfl)
     exact wpo_call 46 _ _ rfl #[.int .i64 x.day,.int .i64 rd,.int .i64 10000] (by simp [Act.eval,e38,e45]) (fun args w=>by kernel_rfl)
      ((HI4.out w1).mono fun e w' ⟨he,hb⟩=>⟨_,he,kk _ _ (by simp) (Below.trans HJ (hb.mono HJ.size)) trivial rfl⟩)
    ·intro a w1 vs K HJ HK HD HN kk
     have e46:=hdE (HD 9 _ 46 rfl rfl rfl)
     go_simp;exact kk _ _ (by simp) HJ trivial rfl
    ·intro a w1 vs K HJ HK HD HN kk
     have e47:=hdE (HD 10 _ 47 rfl rfl rfl)
     go_simp;exact kk _ _ (by simp) HJ trivial rfl
    ·intro a w1 vs K HJ HK HD HN kk
     have e48:=hdE (HD 11 _ 48 rfl rfl rfl)
     rw [if_pos (wanted_yes 11 false rfl rfl rfl e48)]
     have e3:=HK 3 (by decide)
     go_simp;exact kk _ _ (by simp) HJ trivial rfl
    ·intro a w1 vs K HJ HK HD HN kk
     have e48:=hdE (HD 11 _ 48 rfl rfl rfl)
     rw [if_pos (wanted_yes 11 false rfl rfl rfl e48)]
     have e49:=hdE (HD 12 _ 49 rfl rfl rfl)
     have ca:w1.cell? ⟨qb+1,3,none⟩=some (.slice A nl cl):=(HC.out w1 HJ).2.2.2.2.2.2
     go_simp;exact kk _ _ (by simp) HJ trivial rfl
    ·intro a w1 vs K HJ HK HD HN kk
     have e48:=hdE (HD 11 _ 48 rfl rfl rfl)
     rw [if_pos (wanted_yes 11 false rfl rfl rfl e48)]
     have e50:=hdE (HD 13 _ 50 rfl rfl rfl)
     go_simp;exact kk _ _ (by simp) HJ trivial rfl
    ·intro a w1 vs K HJ HK HD HN kk
     have e48:=hdE (HD 11 _ 48 rfl rfl rfl)
     rw [if_pos (wanted_yes 11 false rfl rfl rfl e48)]
     have e51:=hdE (HD 14 _ 51 rfl rfl rfl)
     have hz1:=hzi
     go_simp;exact kk _ _ (by simp) HJ trivial rfl
    ·intro a w1 vs K HJ HK HD HN kk
     have e48:=hdE (HD 11 _ 48 rfl rfl rfl)
     have e52:=hdE (HD 15 _ 52 rfl rfl rfl)
     go_simp;exact kk _ _ (by simp) HJ trivial rfl
    ·intro a w1 vs K HJ HK HD HN kk
     have e53:=hdE (HD 16 _ 53 rfl rfl rfl)
     go_simp;exact kk _ _ (by simp) HJ trivial rfl
    ·intro a w1 vs K HJ HK HD HN kk
     have e54:=hdE (HD 17 _ 54 rfl rfl rfl)
     rw [if_pos (wanted_yes 17 false rfl rfl rfl e54)]
     have e3:=HK 3 (by decide)
     go_simp;exact kk _ _ (by simp) HJ trivial rfl
    ·intro a w1 vs K HJ HK HD HN kk
     have e54:=hdE (HD 17 _ 54 rfl rfl rfl)
     rw [if_pos (wanted_yes 17 false rfl rfl rfl e54)]
     have e55:=hdE (HD 18 _ 55 rfl rfl rfl)
     have ca:w1.cell? ⟨qb+1,3,none⟩=some (.slice A nl cl):=(HC.out w1 HJ).2.2.2.2.2.2
     go_simp;exact kk _ _ (by simp) HJ trivial rfl
    ·intro a w1 vs K HJ HK HD HN kk
     have e54:=hdE (HD 17 _ 54 rfl rfl rfl)
     rw [if_pos (wanted_yes 17 false rfl rfl rfl e54)]
     have e2:=HK 2 (by decide)
     go_simp;exact kk _ _ (by simp) HJ trivial rfl
    ·intro a w1 vs K HJ HK HD HN kk
     have e54:=hdE (HD 17 _ 54 rfl rfl rfl)
     rw [if_pos (wanted_yes 17 false rfl rfl rfl e54)]
     have e57:=hdE (HD 20 _ 57 rfl rfl rfl)
     have ca:w1.cell? ⟨qb,2,none⟩=some (.slice V.gA ng V.gc):=(HC.out w1 HJ).2.2.1
     go_simp;exact kk _ _ (by simp) HJ trivial rfl
    ·intro a w1 vs K HJ HK HD HN kk
     have e54:=hdE (HD 17 _ 54 rfl rfl rfl)
     rw [if_pos (wanted_yes 17 false rfl rfl rfl e54)]
     have e58:=hdE (HD 21 _ 58 rfl rfl rfl)
     go_simp;exact kk _ _ (by simp) HJ trivial rfl
    ·intro a w1 vs K HJ HK HD HN kk
     have e54:=hdE (HD 17 _ 54 rfl rfl rfl)
     rw [if_pos (wanted_yes 17 false rfl rfl rfl e54)]
     have e56:=hdE (HD 19 _ 56 rfl rfl rfl)
     have e59:=hdE (HD 22 _ 59 rfl rfl rfl)
     exact wpo_call 48 _ _ rfl #[.slice A nl cl,.int .i64 ng] (by simp [Act.eval,e56,e59]) (fun args w=>by kernel_rfl)
      ((HI6.out w1 HJ).mono fun e w' ⟨he,hb⟩=>⟨_,he,kk _ _ (by simp) (Below.trans HJ (hb.mono HJ.size)) trivial rfl⟩)
    ·intro a w1 vs K HJ HK HD HN kk
     have e54:=hdE (HD 17 _ 54 rfl rfl rfl)
     rw [if_pos (wanted_yes 17 false rfl rfl rfl e54)]
     have e60:=hdE (HD 23 _ 60 rfl rfl rfl)
     go_simp;exact kk _ _ (by simp) HJ trivial rfl
    ·intro a w1 vs K HJ HK HD HN kk
     have e54:=hdE (HD 17 _ 54 rfl rfl rfl)
     have e61:=hdE (HD 24 _ 61 rfl rfl rfl)
     go_simp;exact kk _ _ (by simp) HJ trivial rfl
   ·intro vs w6 hw6 hrr
    have e25:vs 25=.bool true:=hrr 25 _ rfl
    have HB6:=Lib.hid hw6
    clear hrr hw6
    simp only [putAll,Act.put,List.setIfInBounds_toArray,List.set_cons_zero,List.set_cons_succ]
    rw [e25]
    go_wp2_with fail
    go_ret
    exact HFIN.out _ _ HRF.out (HB0.out.trans (HB6.out.mono HSZ.out))
  | true =>
  refine wp_region_steps (by kernel_rfl) (by kernel_rfl) (fun w1=>Below W0.heap.size W0 w1) (fun _ _ _=>True)
   (fun ix u _ _=>match ix with
    | 0=>u=.pointer (some ⟨qb+1,0,none⟩)
    | 1=>u=.int .i64 x.day
    | 2=>u=.pointer (some ⟨qb,0,none⟩)
    | 3=>u=.slice (some ⟨cb,co,none⟩) nc V.cc
    | 4=>u=.pointer (some ⟨qb+1,1,none⟩)
    | 5=>u=.int .i64 (ic:Int)
    | 6=>u=.pointer (some ⟨cb,co+ic * 4,none⟩)
    | 7=>u=.pointer (some ⟨cb,co+ic * 4+2,none⟩)
    | 8=>u=.int .i64 rd
    | 9=>u=.bool true
    | 10=>u=.bool false
    | 11=>u=.bool false
    | 12=>u=.pointer (some ⟨qb+1,3,none⟩)
    | 13=>u=.slice A nl cl
    | 14=>u=.int .i64 nl
    | 15=>u=.bool false
    | 16=>u=.bool false
    | 17=>u=.bool false
    | 18=>u=.pointer (some ⟨qb+1,3,none⟩)
    | 19=>u=.slice A nl cl
    | 20=>u=.pointer (some ⟨qb,2,none⟩)
    | 21=>u=.slice V.gA ng V.gc
    | 22=>u=.int .i64 ng
    | 23=>u=.bool true
    | 24=>u=.bool false
    | _=>u=.bool false) HB1W.out.drew (fun _ _ _ _ _ _ _ _ h _ _=>h) ?_ ?_
  ·refine ⟨?_,?_,?_,?_,?_,?_,?_,?_,?_,?_,?_,?_,?_,?_,?_,?_,?_,?_,?_,?_,?_,?_,?_,?_,?_,?_,trivial⟩
   ·intro a w1 vs K HJ HK HD HN kk
    have e3:=HK 3 (by decide)
    go_simp;exact kk _ _ (by simp) HJ trivial rfl
   ·intro a w1 vs K HJ HK HD HN kk
    have e37:=hdE (HD 0 _ 37 rfl rfl rfl)
    have ca:w1.cell? ⟨qb+1,0,none⟩=some (.int .i64 x.day):=(HC.out w1 HJ).2.2.2.1
    go_simp;exact kk _ _ (by simp) HJ trivial rfl
   ·intro a w1 vs K HJ HK HD HN kk
    have e2:=HK 2 (by decide)
    go_simp;exact kk _ _ (by simp) HJ trivial rfl
   ·intro a w1 vs K HJ HK HD HN kk
    have e39:=hdE (HD 2 _ 39 rfl rfl rfl)
    have ca:w1.cell? ⟨qb,0,none⟩=some (.slice (some ⟨cb,co,none⟩) nc V.cc):=(HC.out w1 HJ).1
    go_simp;exact kk _ _ (by simp) HJ trivial rfl
   ·intro a w1 vs K HJ HK HD HN kk
    have e3:=HK 3 (by decide)
    go_simp;exact kk _ _ (by simp) HJ trivial rfl
   ·intro a w1 vs K HJ HK HD HN kk
    have e41:=hdE (HD 4 _ 41 rfl rfl rfl)
    have ca:w1.cell? ⟨qb+1,1,none⟩=some (.int .i64 (ic:Int)):=(HC.out w1 HJ).2.2.2.2.1
    go_simp;exact kk _ _ (by simp) HJ trivial rfl
   ·intro a w1 vs K HJ HK HD HN kk
    have e40:=hdE (HD 3 _ 40 rfl rfl rfl)
    have e42:=hdE (HD 5 _ 42 rfl rfl rfl)
    go_simp;exact kk _ _ (by simp) HJ trivial rfl
   ·intro a w1 vs K HJ HK HD HN kk
    have e43:=hdE (HD 6 _ 43 rfl rfl rfl)
    go_simp;exact kk _ _ (by simp) HJ trivial rfl
   ·intro a w1 vs K HJ HK HD HN kk
    have e44:=hdE (HD 7 _ 44 rfl rfl rfl)
    have ca:w1.cell? ⟨cb,co+ic * 4+2,none⟩=some (.int .i64 rd):=(HC2.out w1 HJ).1
    go_simp;exact kk _ _ (by simp) HJ trivial rfl
   ·intro a w1 vs K HJ HK HD HN kk
    have e38:=hdE (HD 1 _ 38 rfl rfl rfl)
    have e45:=hdE (HD 8 _ 45 rfl rfl rfl)
    exact wpo_call 46 _ _ rfl #[.int .i64 x.day,.int .i64 rd,.int .i64 10000] (by simp [Act.eval,e38,e45]) (fun args w=>by kernel_rfl)
     ((HI4.out w1).mono fun e w' ⟨he,hb⟩=>⟨_,he,kk _ _ (by simp) (Below.trans HJ (hb.mono HJ.size)) trivial rfl⟩)
   ·intro a w1 vs K HJ HK HD HN kk
    have e46:=hdE (HD 9 _ 46 rfl rfl rfl)
    go_simp;exact kk _ _ (by simp) HJ trivial rfl
   ·intro a w1 vs K HJ HK HD HN kk
    have e47:=hdE (HD 10 _ 47 rfl rfl rfl)
    go_simp;exact kk _ _ (by simp) HJ trivial rfl
   ·intro a w1 vs K HJ HK HD HN kk
    have e48:=hdE (HD 11 _ 48 rfl rfl rfl)
    rw [if_pos (wanted_yes 11 false rfl rfl rfl e48)]
    have e3:=HK 3 (by decide)
    go_simp;exact kk _ _ (by simp) HJ trivial rfl
   ·intro a w1 vs K HJ HK HD HN kk
    have e48:=hdE (HD 11 _ 48 rfl rfl rfl)
    rw [if_pos (wanted_yes 11 false rfl rfl rfl e48)]
    have e49:=hdE (HD 12 _ 49 rfl rfl rfl)
    have ca:w1.cell? ⟨qb+1,3,none⟩=some (.slice A nl cl):=(HC.out w1 HJ).2.2.2.2.2.2
    go_simp;exact kk _ _ (by simp) HJ trivial rfl
   ·intro a w1 vs K HJ HK HD HN kk
    have e48:=hdE (HD 11 _ 48 rfl rfl rfl)
    rw [if_pos (wanted_yes 11 false rfl rfl rfl e48)]
    have e50:=hdE (HD 13 _ 50 rfl rfl rfl)
    go_simp;exact kk _ _ (by simp) HJ trivial rfl
   ·intro a w1 vs K HJ HK HD HN kk
    have e48:=hdE (HD 11 _ 48 rfl rfl rfl)
    rw [if_pos (wanted_yes 11 false rfl rfl rfl e48)]
    have e51:=hdE (HD 14 _ 51 rfl rfl rfl)
    have hz1:=hzi
    go_simp;exact kk _ _ (by simp) HJ trivial rfl
   ·intro a w1 vs K HJ HK HD HN kk
    have e48:=hdE (HD 11 _ 48 rfl rfl rfl)
    have e52:=hdE (HD 15 _ 52 rfl rfl rfl)
    go_simp;exact kk _ _ (by simp) HJ trivial rfl
   ·intro a w1 vs K HJ HK HD HN kk
    have e53:=hdE (HD 16 _ 53 rfl rfl rfl)
    go_simp;exact kk _ _ (by simp) HJ trivial rfl
   ·intro a w1 vs K HJ HK HD HN kk
    have e54:=hdE (HD 17 _ 54 rfl rfl rfl)
    rw [if_pos (wanted_yes 17 false rfl rfl rfl e54)]
    have e3:=HK 3 (by decide)
    go_simp;exact kk _ _ (by simp) HJ trivial rfl
   ·intro a w1 vs K HJ HK HD HN kk
    have e54:=hdE (HD 17 _ 54 rfl rfl rfl)
    rw [if_pos (wanted_yes 17 false rfl rfl rfl e54)]
    have e55:=hdE (HD 18 _ 55 rfl rfl rfl)
    have ca:w1.cell? ⟨qb+1,3,none⟩=some (.slice A nl cl):=(HC.out w1 HJ).2.2.2.2.2.2
    go_simp;exact kk _ _ (by simp) HJ trivial rfl
   ·intro a w1 vs K HJ HK HD HN kk
    have e54:=hdE (HD 17 _ 54 rfl rfl rfl)
    rw [if_pos (wanted_yes 17 false rfl rfl rfl e54)]
    have e2:=HK 2 (by decide)
    go_simp;exact kk _ _ (by simp) HJ trivial rfl
   ·intro a w1 vs K HJ HK HD HN kk
    have e54:=hdE (HD 17 _ 54 rfl rfl rfl)
    rw [if_pos (wanted_yes 17 false rfl rfl rfl e54)]
    have e57:=hdE (HD 20 _ 57 rfl rfl rfl)
    have ca:w1.cell? ⟨qb,2,none⟩=some (.slice V.gA ng V.gc):=(HC.out w1 HJ).2.2.1
    go_simp;exact kk _ _ (by simp) HJ trivial rfl
   ·intro a w1 vs K HJ HK HD HN kk
    have e54:=hdE (HD 17 _ 54 rfl rfl rfl)
    rw [if_pos (wanted_yes 17 false rfl rfl rfl e54)]
    have e58:=hdE (HD 21 _ 58 rfl rfl rfl)
    go_simp;exact kk _ _ (by simp) HJ trivial rfl
   ·intro a w1 vs K HJ HK HD HN kk
    have e54:=hdE (HD 17 _ 54 rfl rfl rfl)
    rw [if_pos (wanted_yes 17 false rfl rfl rfl e54)]
    have e56:=hdE (HD 19 _ 56 rfl rfl rfl)
    have e59:=hdE (HD 22 _ 59 rfl rfl rfl)
    exact wpo_call 48 _ _ rfl #[.slice A nl cl,.int .i64 ng] (by simp [Act.eval,e56,e59]) (fun args w=>by kernel_rfl)
     ((HI6.out w1 HJ).mono fun e w' ⟨he,hb⟩=>⟨_,he,kk _ _ (by simp) (Below.trans HJ (hb.mono HJ.size)) trivial rfl⟩)
   ·intro a w1 vs K HJ HK HD HN kk
    have e54:=hdE (HD 17 _ 54 rfl rfl rfl)
    rw [if_pos (wanted_yes 17 false rfl rfl rfl e54)]
    have e60:=hdE (HD 23 _ 60 rfl rfl rfl)
    go_simp;exact kk _ _ (by simp) HJ trivial rfl
   ·intro a w1 vs K HJ HK HD HN kk
    have e54:=hdE (HD 17 _ 54 rfl rfl rfl)
    have e61:=hdE (HD 24 _ 61 rfl rfl rfl)
    go_simp;exact kk _ _ (by simp) HJ trivial rfl
  ·intro vs W2 hw6 hrr
   have e25:vs 25=.bool false:=hrr 25 _ rfl
   have HB2W:=Lib.hid hw6
   clear hrr hw6
   simp only [putAll,Act.put,List.setIfInBounds_toArray,List.set_cons_zero,List.set_cons_succ]
   rw [e25]
   go_wp2_with fail
   obtain ⟨b7,hb7⟩:∃ b,(x.cargos.all fun i=>inB x.day (c.cargo i).frm (c.cargo i).to)=b:=⟨_,rfl⟩
   have HB7:=Lib.hid hb7
   have HI7:Hid (∀ w1,Below W0.heap.size W0 w1→Calls Tryz.prog 107 #[.slice A nl cl,.func (.func 106) #[] #[.pointer (some ⟨qb+1,0,none⟩),.pointer (some ⟨qb,0,none⟩)]] w1 fun e w'=>e=.returned (.bool b7)∧Below w1.heap.size w1 w'):=Lib.hid fun w1 hb=>by
    rw [← hb7,← all_num x.cargos fun i=>inB x.day (c.cargo i).frm (c.cargo i).to,← HNL.out]
    refine allInt w1 A x.cargos.length cl _ (HLA.out.later hb) 106 _ (fun i=>inB x.day (c.cargo (numI x.cargos i)).frm (c.cargo (numI x.cargos i)).to) (fun args w=>by kernel_rfl) ?_
    intro w2 hw2 i hi
    obtain ⟨m,hm,hmn⟩:=rise_num HB6'.out hi
    dsimp only
    rw [hm]
    have hb2:=hb.trans (hw2.mono hb.size)
    have hcc:=HC.out w2 hb2
    exact openCl_any w2 V c (HCA.out.later hb2) m (by omega) x.day (qb+1) qb hcc.2.2.2.1 (by rw [HNG.out];exact hcc.2.2.1)
   clear hb7
   have HS2:Hid (W0.heap.size≤W2.heap.size):=Lib.hid HB2W.out.size
   cases b7 with
   | false =>
    have HRF:Hid (false=R):=Lib.hid (by rw [← HR.out];exact (possB_no7 HB7.out).symm)
    refine wp_region_steps (by kernel_rfl) (by kernel_rfl) (fun w1=>Below W0.heap.size W0 w1) (fun _ _ _=>True)
     (fun ix u _ _=>match ix with
      | 0=>u=.pointer (some ⟨qb+1,3,none⟩)
      | 1=>u=.slice A nl cl
      | 2=>u=.func (.func 106) #[] #[.pointer (some ⟨qb+1,0,none⟩),.pointer (some ⟨qb,0,none⟩)]
      | 3=>u=.bool false
      | 4=>u=.bool false
      | 5=>True
      | 6=>True
      | 7=>True
      | 8=>True
      | 9=>True
      | 10=>True
      | 11=>True
      | 12=>True
      | 13=>True
      | 14=>u=.bool false
      | _=>u=.bool false) HB2W.out.drew (fun _ _ _ _ _ _ _ _ h _ _=>h) ?_ ?_
    ·refine ⟨?_,?_,?_,?_,?_,?_,?_,?_,?_,?_,?_,?_,?_,?_,?_,?_,trivial⟩
     ·intro a w1 vs K HJ HK HD HN kk
      have e3:=HK 3 (by decide)
      go_simp;exact kk _ _ (by simp) HJ trivial rfl
     ·intro a w1 vs K HJ HK HD HN kk
      have e64:=hdE (HD 0 _ 64 rfl rfl rfl)
      have ca:w1.cell? ⟨qb+1,3,none⟩=some (.slice A nl cl):=(HC.out w1 HJ).2.2.2.2.2.2
      go_simp;exact kk _ _ (by simp) HJ trivial rfl
     ·intro a w1 vs K HJ HK HD HN kk
      have e5:=HK 5 (by decide)
      go_simp;exact kk _ _ (by simp) HJ trivial rfl
     ·intro a w1 vs K HJ HK HD HN kk
      have e65:=hdE (HD 1 _ 65 rfl rfl rfl)
      have e66:=hdE (HD 2 _ 66 rfl rfl rfl)
      exact wpo_call 107 _ _ rfl #[.slice A nl cl,.func (.func 106) #[] #[.pointer (some ⟨qb+1,0,none⟩),.pointer (some ⟨qb,0,none⟩)]] (by simp [Act.eval,e65,e66]) (fun args w=>by kernel_rfl)
       ((HI7.out w1 HJ).mono fun e w' ⟨he,hb⟩=>⟨_,he,kk _ _ (by simp) (Below.trans HJ (hb.mono HJ.size)) trivial rfl⟩)
     ·intro a w1 vs K HJ HK HD HN kk
      have e67:=hdE (HD 3 _ 67 rfl rfl rfl)
      go_simp;exact kk _ _ (by simp) HJ trivial rfl
     ·intro a w1 vs K HJ HK HD HN kk
      have e68:=hdE (HD 4 _ 68 rfl rfl rfl)
      rw [if_neg (wanted_no 4 true rfl rfl rfl e68)]
      exact kk undef _ (by simp) HJ trivial trivial
     ·intro a w1 vs K HJ HK HD HN kk
      have e68:=hdE (HD 4 _ 68 rfl rfl rfl)
      rw [if_neg (wanted_no 4 true rfl rfl rfl e68)]
      exact kk undef _ (by simp) HJ trivial trivial
     ·intro a w1 vs K HJ HK HD HN kk
      have e68:=hdE (HD 4 _ 68 rfl rfl rfl)
      rw [if_neg (wanted_no 4 true rfl rfl rfl e68)]
      exact kk undef _ (by simp) HJ trivial trivial
     ·intro a w1 vs K HJ HK HD HN kk
      have e68:=hdE (HD 4 _ 68 rfl rfl rfl)
      rw [if_neg (wanted_no 4 true rfl rfl rfl e68)]
      exact kk undef _ (by simp) HJ trivial trivial
     ·intro a w1 vs K HJ HK HD HN kk
      have e68:=hdE (HD 4 _ 68 rfl rfl rfl)
      rw [if_neg (wanted_no 4 true rfl rfl rfl e68)]
      exact kk undef _ (by simp) HJ trivial trivial
     ·intro a w1 vs K HJ HK HD HN kk
      have e68:=hdE (HD 4 _ 68 rfl rfl rfl)
      rw [if_neg (wanted_no 4 true rfl rfl rfl e68)]
      exact kk undef _ (by simp) HJ trivial trivial
     ·intro a w1 vs K HJ HK HD HN kk
      have e68:=hdE (HD 4 _ 68 rfl rfl rfl)
      rw [if_neg (wanted_no 4 true rfl rfl rfl e68)]
      exact kk undef _ (by simp) HJ trivial trivial
     ·intro a w1 vs K HJ HK HD HN kk
      have e68:=hdE (HD 4 _ 68 rfl rfl rfl)
      rw [if_neg (wanted_no 4 true rfl rfl rfl e68)]
      exact kk undef _ (by simp) HJ trivial trivial
     ·intro a w1 vs K HJ HK HD HN kk
      have e68:=hdE (HD 4 _ 68 rfl rfl rfl)
      rw [if_neg (wanted_no 4 true rfl rfl rfl e68)]
      exact kk undef _ (by simp) HJ trivial trivial
     ·intro a w1 vs K HJ HK HD HN kk
      have e68:=hdE (HD 4 _ 68 rfl rfl rfl)
      go_simp;exact kk _ _ (by simp) HJ trivial rfl
     ·intro a w1 vs K HJ HK HD HN kk
      have e78:=hdE (HD 14 _ 78 rfl rfl rfl)
      go_simp;exact kk _ _ (by simp) HJ trivial rfl
    ·intro vs w6 hw6 hrr
     have e15:vs 15=.bool false:=hrr 15 _ rfl
     have HB6:=Lib.hid hw6
     clear hrr hw6
     simp only [putAll,Act.put,List.setIfInBounds_toArray,List.set_cons_zero,List.set_cons_succ]
     rw [e15]
     go_wp2_with fail
     go_ret
     exact HFIN.out _ _ HRF.out (HB0.out.trans (HB6.out.mono HSZ.out))
   | true =>
    obtain ⟨ma,hma⟩:∃ ma,massL c x.cargos=ma:=⟨_,rfl⟩
    obtain ⟨mo,hmo⟩:∃ mo,mostB c x.craft=mo:=⟨_,rfl⟩
    obtain ⟨b8,hb8⟩:∃ b,decide (ma≤mo)=b:=⟨_,rfl⟩
    have HRT:Hid (b8=R):=Lib.hid (by
     rw [← HR.out]
     exact (possB_yes (by rw [HNC.out];exact HB1.out) (by rw [HNP.out];exact HB2.out) HB3.out HB4.out HZ.out HB6'.out HB7.out (by rw [hma,hmo];exact hb8)).symm)
    have HI8:Hid (∀ w1,Below W0.heap.size W0 w1→Calls Tryz.prog 63 #[.agg (campA V c),.slice A nl cl] w1 fun e w'=>e=.returned (.int .i64 ma)∧Below w1.heap.size w1 w'):=Lib.hid fun w1 hb=>by
     rw [← hma,← HNL.out]
     exact mass_any w1 V c (HCA.out.later hb) HCAMP.out A cl x.cargos (HLA.out.later hb) HB6'.out
    have HI9:Hid (∀ w1,Below W0.heap.size W0 w1→Calls Tryz.prog 62 #[.agg (campA V c),.int .i64 (ic:Int)] w1 fun e w'=>e=.returned (.int .i64 mo)∧Below w1.heap.size w1 w'):=Lib.hid fun w1 hb=>by
     rw [← hmo,HIC.out]
     exact most_any w1 V c (HCA.out.later hb) HCAMP.out ic (by rw [HNC.out];exact hicn)
    have HB8:=Lib.hid hb8
    have HKC2:Hid (∀ w1,Below W0.heap.size W0 w1→Bk w1 qb 26 (campA V c)):=Lib.hid fun w1 hb=>HKC.out.below hb HKC.out.lt
    clear hma hmo hb8
    refine wp_region_steps (by kernel_rfl) (by kernel_rfl) (fun w1=>Below W0.heap.size W0 w1) (fun _ _ _=>True)
     (fun ix u _ _=>match ix with
      | 0=>u=.pointer (some ⟨qb+1,3,none⟩)
      | 1=>u=.slice A nl cl
      | 2=>u=.func (.func 106) #[] #[.pointer (some ⟨qb+1,0,none⟩),.pointer (some ⟨qb,0,none⟩)]
      | 3=>u=.bool true
      | 4=>u=.bool true
      | 5=>u=.agg (campA V c)
      | 6=>u=.pointer (some ⟨qb+1,3,none⟩)
      | 7=>u=.slice A nl cl
      | 8=>u=.int .i64 ma
      | 9=>u=.agg (campA V c)
      | 10=>u=.pointer (some ⟨qb+1,1,none⟩)
      | 11=>u=.int .i64 (ic:Int)
      | 12=>u=.int .i64 mo
      | 13=>u=.bool b8
      | 14=>u=.bool b8
      | _=>u=.bool b8) HB2W.out.drew (fun _ _ _ _ _ _ _ _ h _ _=>h) ?_ ?_
    ·refine ⟨?_,?_,?_,?_,?_,?_,?_,?_,?_,?_,?_,?_,?_,?_,?_,?_,trivial⟩
     ·intro a w1 vs K HJ HK HD HN kk
      have e3:=HK 3 (by decide)
      go_simp;exact kk _ _ (by simp) HJ trivial rfl
     ·intro a w1 vs K HJ HK HD HN kk
      have e64:=hdE (HD 0 _ 64 rfl rfl rfl)
      have ca:w1.cell? ⟨qb+1,3,none⟩=some (.slice A nl cl):=(HC.out w1 HJ).2.2.2.2.2.2
      go_simp;exact kk _ _ (by simp) HJ trivial rfl
     ·intro a w1 vs K HJ HK HD HN kk
      have e5:=HK 5 (by decide)
      go_simp;exact kk _ _ (by simp) HJ trivial rfl
     ·intro a w1 vs K HJ HK HD HN kk
      have e65:=hdE (HD 1 _ 65 rfl rfl rfl)
      have e66:=hdE (HD 2 _ 66 rfl rfl rfl)
      exact wpo_call 107 _ _ rfl #[.slice A nl cl,.func (.func 106) #[] #[.pointer (some ⟨qb+1,0,none⟩),.pointer (some ⟨qb,0,none⟩)]] (by simp [Act.eval,e65,e66]) (fun args w=>by kernel_rfl)
       ((HI7.out w1 HJ).mono fun e w' ⟨he,hb⟩=>⟨_,he,kk _ _ (by simp) (Below.trans HJ (hb.mono HJ.size)) trivial rfl⟩)
     ·intro a w1 vs K HJ HK HD HN kk
      have e67:=hdE (HD 3 _ 67 rfl rfl rfl)
      go_simp;exact kk _ _ (by simp) HJ trivial rfl
     ·intro a w1 vs K HJ HK HD HN kk
      have e68:=hdE (HD 4 _ 68 rfl rfl rfl)
      rw [if_pos (wanted_yes 4 true rfl rfl rfl e68)]
      have e2:=HK 2 (by decide)
      exact wpo_loadS 26 (.tmp 2) rfl qb 0 (by simpa [Act.eval] using e2) (campA V c) _ (fun j u hj=>by rw [(HKC2.out w1 HJ).cell,Nat.zero_add];exact hj) und_camp rfl (info_campA V c) (kk _ _ (by simp) HJ trivial rfl)
     ·intro a w1 vs K HJ HK HD HN kk
      have e68:=hdE (HD 4 _ 68 rfl rfl rfl)
      rw [if_pos (wanted_yes 4 true rfl rfl rfl e68)]
      have e3:=HK 3 (by decide)
      go_simp;exact kk _ _ (by simp) HJ trivial rfl
     ·intro a w1 vs K HJ HK HD HN kk
      have e68:=hdE (HD 4 _ 68 rfl rfl rfl)
      rw [if_pos (wanted_yes 4 true rfl rfl rfl e68)]
      have e70:=hdE (HD 6 _ 70 rfl rfl rfl)
      have ca:w1.cell? ⟨qb+1,3,none⟩=some (.slice A nl cl):=(HC.out w1 HJ).2.2.2.2.2.2
      go_simp;exact kk _ _ (by simp) HJ trivial rfl
     ·intro a w1 vs K HJ HK HD HN kk
      have e68:=hdE (HD 4 _ 68 rfl rfl rfl)
      rw [if_pos (wanted_yes 4 true rfl rfl rfl e68)]
      have e69:=hdE (HD 5 _ 69 rfl rfl rfl)
      have e71:=hdE (HD 7 _ 71 rfl rfl rfl)
      exact wpo_call 63 _ _ rfl #[.agg (campA V c),.slice A nl cl] (by simp [Act.eval,e69,e71]) (fun args w=>by kernel_rfl)
       ((HI8.out w1 HJ).mono fun e w' ⟨he,hb⟩=>⟨_,he,kk _ _ (by simp) (Below.trans HJ (hb.mono HJ.size)) trivial rfl⟩)
     ·intro a w1 vs K HJ HK HD HN kk
      have e68:=hdE (HD 4 _ 68 rfl rfl rfl)
      rw [if_pos (wanted_yes 4 true rfl rfl rfl e68)]
      have e2:=HK 2 (by decide)
      exact wpo_loadS 26 (.tmp 2) rfl qb 0 (by simpa [Act.eval] using e2) (campA V c) _ (fun j u hj=>by rw [(HKC2.out w1 HJ).cell,Nat.zero_add];exact hj) und_camp rfl (info_campA V c) (kk _ _ (by simp) HJ trivial rfl)
     ·intro a w1 vs K HJ HK HD HN kk
      have e68:=hdE (HD 4 _ 68 rfl rfl rfl)
      rw [if_pos (wanted_yes 4 true rfl rfl rfl e68)]
      have e3:=HK 3 (by decide)
      go_simp;exact kk _ _ (by simp) HJ trivial rfl
     ·intro a w1 vs K HJ HK HD HN kk
      have e68:=hdE (HD 4 _ 68 rfl rfl rfl)
      rw [if_pos (wanted_yes 4 true rfl rfl rfl e68)]
      have e74:=hdE (HD 10 _ 74 rfl rfl rfl)
      have ca:w1.cell? ⟨qb+1,1,none⟩=some (.int .i64 (ic:Int)):=(HC.out w1 HJ).2.2.2.2.1
      go_simp;exact kk _ _ (by simp) HJ trivial rfl
     ·intro a w1 vs K HJ HK HD HN kk
      have e68:=hdE (HD 4 _ 68 rfl rfl rfl)
      rw [if_pos (wanted_yes 4 true rfl rfl rfl e68)]
      have e73:=hdE (HD 9 _ 73 rfl rfl rfl)
      have e75:=hdE (HD 11 _ 75 rfl rfl rfl)
      exact wpo_call 62 _ _ rfl #[.agg (campA V c),.int .i64 (ic:Int)] (by simp [Act.eval,e73,e75]) (fun args w=>by kernel_rfl)
       ((HI9.out w1 HJ).mono fun e w' ⟨he,hb⟩=>⟨_,he,kk _ _ (by simp) (Below.trans HJ (hb.mono HJ.size)) trivial rfl⟩)
     ·intro a w1 vs K HJ HK HD HN kk
      have e68:=hdE (HD 4 _ 68 rfl rfl rfl)
      rw [if_pos (wanted_yes 4 true rfl rfl rfl e68)]
      have e72:=hdE (HD 8 _ 72 rfl rfl rfl)
      have e76:=hdE (HD 12 _ 76 rfl rfl rfl)
      have hb8:=HB8.out
      go_simp;exact kk _ _ (by simp) HJ trivial rfl
     ·intro a w1 vs K HJ HK HD HN kk
      have e68:=hdE (HD 4 _ 68 rfl rfl rfl)
      have e77:=hdE (HD 13 _ 77 rfl rfl rfl)
      go_simp;exact kk _ _ (by simp) HJ trivial rfl
     ·intro a w1 vs K HJ HK HD HN kk
      have e78:=hdE (HD 14 _ 78 rfl rfl rfl)
      go_simp;exact kk _ _ (by simp) HJ trivial rfl
    ·intro vs w6 hw6 hrr
     have e15:vs 15=.bool b8:=hrr 15 _ rfl
     have HB6:=Lib.hid hw6
     clear hrr hw6
     simp only [putAll,Act.put,List.setIfInBounds_toArray,List.set_cons_zero,List.set_cons_succ]
     rw [e15]
     go_wp2_with fail
     go_ret
     exact HFIN.out _ _ HRT.out (HB0.out.trans (HB6.out.mono HSZ.out))
end Go.Proofs.YtcnjenlojnognaaGreat
