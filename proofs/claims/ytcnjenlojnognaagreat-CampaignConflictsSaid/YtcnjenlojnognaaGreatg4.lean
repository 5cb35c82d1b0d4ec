/- What is proved: the texts Sh N O P S T V W X Y Z, one behind the other; each says at its head what it proves, and under which conditions. -/
import Derived.Shelf.SlGeneric
import Derived.Shelf.Small.Bits
import Derived.Shelf.Sort.Plain
import Derived.Ground.Names2Prog
import Derived.Shelf.Slices.In.SortNone
import Derived.Shelf.SlSortCmp.NoneTotal
import Derived.Ground.SlsfProg
import Derived.Ground.NamesProg
import Derived.Test.YtcnjenlojnognaaGreatProg
import Derived.Laws.BitsAllLaws
import Derived.RangeFuncNested
import Derived.RangeFuncBound
import Derived.RangeFuncCalls
import Derived.RangeFuncLeaves
import Derived.Shelf.Abstract
import Derived.Shelf.RegionOpen
import Derived.Sort.QuietIn
import Derived.WalkKit
import Derived.OwnWalkIn
import Derived.TacticsInMore
import Derived.LoopNIn
import Derived.LoopIn
import Derived.Test.YtcnjenlojnognaaGreatg3
/-
 DERIVED: THE SHELF's CONTRACTS AT THIS DUMP, IN PLAIN WORDS (tools/lay-plain.mjs out of 'TryzShelf.lean', which tools/lay-shelf.mjs wrote): THE SAME DECLARATIONS UNDER THE SAME NAMES: 'import', 'namespace', 'open', 'def', 'theorem' AND NOTHING ELSE: no command of the shelf's: FOR A HAND-IN. Each laying: the table of numbers ('.._ren') and one theorem, a field a fact of the dump's own or the kernel's comparison; each contract: ONE APPLICATION.
-/
namespace Go.Proofs
open Go.Shelf
def Tryz.lays125_ren:Go.Shelf.Ren:=⟨fun | 125=>101 | 128=>118 | 129=>119 | n=>n,fun | 46=>93 | 3=>3 | 51=>136 | 53=>138 | 4=>4 | 5=>5 | 9=>9 | n=>n,fun | n=>n⟩
theorem Tryz.lays125:Go.Proofs.Lays.n125 Tryz.prog Tryz.lays125_ren:={
 mixed:=by kernel_rfl
 f125:=Tryz.func101.trans (congrArg some (by kernel_rfl))
 f128:=Tryz.func118.trans (congrArg some (by kernel_rfl))
 f129:=Tryz.func119.trans (congrArg some (by kernel_rfl))
 t3:=Tryz.underlying3
 a3:=Tryz.isAgg3
 z3:=Tryz.sizeOf3
 v3:=Tryz.zeroValue3
 t4:=Tryz.underlying4
 a4:=Tryz.isAgg4
 z4:=Tryz.sizeOf4
 v4:=Tryz.zeroValue4
 t5:=Tryz.underlying5
 a5:=Tryz.isAgg5
 z5:=Tryz.sizeOf5
 v5:=Tryz.zeroValue5
 t9:=Tryz.underlying9
 a9:=Tryz.isAgg9
 z9:=Tryz.sizeOf9
 v9:=Tryz.zeroValue9
 t46:=Tryz.underlying93
 a46:=Tryz.isAgg93
 z46:=Tryz.sizeOf93
 v46:=Tryz.zeroValue93
 t51:=Tryz.underlying136
 a51:=Tryz.isAgg136
 z51:=Tryz.sizeOf136
 v51:=Tryz.zeroValue136
 t53:=Tryz.underlying138
 a53:=Tryz.isAgg138
 z53:=Tryz.sizeOf138
 v53:=Tryz.zeroValue138 }
/-- bits.Len: "Len returns the minimum number of bits required to represent x; the result is 0 for x == 0.": IT RETURNS 'Lib.bitLen x'; the world is as it was. (A uint has 64 bits in the model.) ITS CALLEE bits.Len64 IS MET BY ITS OWN CONTRACT OFF THE SHELF (lay that first). (LAID: no walk: one application.) -/
theorem Tryz.bits_Len (x:Int) (w:World) (h0:0≤x) (h1:x≤18446744073709551615) :
  Calls Tryz.prog 101 #[.int .u64 x] w fun e w'=>e=.returned (.int .i64 (Lib.bitLen x.toNat))∧w'=w:=Any.bits_Len Tryz.lays125 x w h0 h1
def Tryz.lays189_ren:Go.Shelf.Ren:=⟨fun | 189=>96 | 125=>101 | 257=>113 | 128=>118 | 129=>119 | 294=>123 | 295=>124 | 296=>125 | 297=>126 | 298=>127 | 299=>128 | 216=>129 | 300=>130 | 301=>131 | 328=>144 | 329=>145 | 330=>146 | 331=>147 | 332=>148 | 215=>120 | 343=>153 | n=>n,fun | 28=>48 | 3=>3 | 46=>93 | 0=>0 | 51=>136 | 53=>138 | 4=>4 | 183=>142 | 182=>141 | 131=>146 | 5=>5 | 9=>9 | 218=>160 | 222=>164 | 228=>168 | 229=>169 | n=>n,fun | n=>n⟩
theorem Tryz.lays189:Go.Proofs.Lays.n189 Tryz.prog Tryz.lays189_ren:={
 mixed:=by kernel_rfl
 f125:=Tryz.func101.trans (congrArg some (by kernel_rfl))
 f128:=Tryz.func118.trans (congrArg some (by kernel_rfl))
 f129:=Tryz.func119.trans (congrArg some (by kernel_rfl))
 f189:=Tryz.func96.trans (congrArg some (by kernel_rfl))
 f215:=Tryz.func120.trans (congrArg some (by kernel_rfl))
 f216:=Tryz.func129.trans (congrArg some (by kernel_rfl))
 f257:=Tryz.func113.trans (congrArg some (by kernel_rfl))
 f294:=Tryz.func123.trans (congrArg some (by kernel_rfl))
 f295:=Tryz.func124.trans (congrArg some (by kernel_rfl))
 f296:=Tryz.func125.trans (congrArg some (by kernel_rfl))
 f297:=Tryz.func126.trans (congrArg some (by kernel_rfl))
 f298:=Tryz.func127.trans (congrArg some (by kernel_rfl))
 f299:=Tryz.func128.trans (congrArg some (by kernel_rfl))
 f300:=Tryz.func130.trans (congrArg some (by kernel_rfl))
 f301:=Tryz.func131.trans (congrArg some (by kernel_rfl))
 f328:=Tryz.func144.trans (congrArg some (by kernel_rfl))
 f329:=Tryz.func145.trans (congrArg some (by kernel_rfl))
 f330:=Tryz.func146.trans (congrArg some (by kernel_rfl))
 f331:=Tryz.func147.trans (congrArg some (by kernel_rfl))
 f332:=Tryz.func148.trans (congrArg some (by kernel_rfl))
 f343:=Tryz.func153.trans (congrArg some (by kernel_rfl))
 t0:=Tryz.underlying0
 a0:=Tryz.isAgg0
 z0:=Tryz.sizeOf0
 v0:=Tryz.zeroValue0
 t3:=Tryz.underlying3
 a3:=Tryz.isAgg3
 z3:=Tryz.sizeOf3
 v3:=Tryz.zeroValue3
 t4:=Tryz.underlying4
 a4:=Tryz.isAgg4
 z4:=Tryz.sizeOf4
 v4:=Tryz.zeroValue4
 t5:=Tryz.underlying5
 a5:=Tryz.isAgg5
 z5:=Tryz.sizeOf5
 v5:=Tryz.zeroValue5
 t9:=Tryz.underlying9
 a9:=Tryz.isAgg9
 z9:=Tryz.sizeOf9
 v9:=Tryz.zeroValue9
 t28:=Tryz.underlying48
 a28:=Tryz.isAgg48
 z28:=Tryz.sizeOf48
 v28:=Tryz.zeroValue48
 t46:=Tryz.underlying93
 a46:=Tryz.isAgg93
 z46:=Tryz.sizeOf93
 v46:=Tryz.zeroValue93
 t51:=Tryz.underlying136
 a51:=Tryz.isAgg136
 z51:=Tryz.sizeOf136
 v51:=Tryz.zeroValue136
 t53:=Tryz.underlying138
 a53:=Tryz.isAgg138
 z53:=Tryz.sizeOf138
 v53:=Tryz.zeroValue138
 t131:=Tryz.underlying146
 a131:=Tryz.isAgg146
 z131:=Tryz.sizeOf146
 v131:=Tryz.zeroValue146
 t182:=Tryz.underlying141
 a182:=Tryz.isAgg141
 z182:=Tryz.sizeOf141
 v182:=Tryz.zeroValue141
 t183:=Tryz.underlying142
 a183:=Tryz.isAgg142
 z183:=Tryz.sizeOf142
 v183:=Tryz.zeroValue142
 t218:=Tryz.underlying160
 a218:=Tryz.isAgg160
 z218:=Tryz.sizeOf160
 v218:=Tryz.zeroValue160
 t222:=Tryz.underlying164
 a222:=Tryz.isAgg164
 z222:=Tryz.sizeOf164
 v222:=Tryz.zeroValue164
 t228:=Tryz.underlying168
 a228:=Tryz.isAgg168
 z228:=Tryz.sizeOf168
 v228:=Tryz.zeroValue168
 t229:=Tryz.underlying169
 a229:=Tryz.isAgg169
 z229:=Tryz.sizeOf169
 v229:=Tryz.zeroValue169 }
open Go.Sort Go.RowKit in
theorem Tryz.slices_Sort_int (blk off cap:Nat) (zs:List Int) (w:World) (hH:Holds (Value.int .i64) w blk off zs.toArray) (hblk:blk<w.heap.size) (hsz:zs.length<4611686018427387904) :
  Calls Tryz.prog 96 #[.slice (some ⟨blk,off,none⟩) zs.length cap] w fun e w' =>
   e=.returned (.tuple #[])∧∃ n os,w'=grow (putRow (Value.int .i64) (Sort.ahead w n) blk off (zs.mergeSort fun x y=>decide (x≤y)).toArray) os:=Any.slices_Sort_int Tryz.lays189 blk off cap zs w hH hblk hsz
open Go.RowKit Go.Sort in
/-- .. and plain. (LAID: no walk: one application.) -/
theorem Tryz.slices_Sort_int_none (p:Option Addr) (cap:Nat) (w:World) :
  Calls Tryz.prog 96 #[.slice p 0 cap] w fun e w'=>e=.returned (.tuple #[])∧w'=w:=Any.slices_Sort_int_none Tryz.lays189 p cap w
def Tryz.sortL_ren:Go.Shelf.Ren:=⟨fun | 6=>105 | 15=>101 | 14=>121 | 28=>118 | 29=>119 | 20=>136 | 21=>137 | 22=>138 | 23=>139 | 24=>140 | 25=>141 | 26=>142 | 27=>143 | 46=>150 | 47=>145 | 48=>146 | 49=>151 | 50=>152 | 57=>156 | n=>n,fun | 22=>27 | 24=>52 | 25=>92 | 3=>3 | 39=>93 | 0=>0 | 53=>136 | 55=>138 | 4=>4 | 46=>142 | 45=>141 | 50=>146 | 5=>5 | 9=>9 | 66=>160 | 70=>164 | 76=>168 | 77=>169 | n=>n,fun | n=>n⟩
theorem Tryz.sortL:Go.Proofs.SlLaysF0.n6 Tryz.prog Tryz.sortL_ren:={
 mixed:=by kernel_rfl
 f6:=⟨Tryz.f105.name,by decide,Tryz.func105.trans (congrArg some (by kernel_rfl))⟩
 f14:=⟨Tryz.f121.name,by decide,Tryz.func121.trans (congrArg some (by kernel_rfl))⟩
 f15:=Tryz.func101.trans (congrArg some (by kernel_rfl))
 f20:=⟨Tryz.f136.name,by decide,Tryz.func136.trans (congrArg some (by kernel_rfl))⟩
 f21:=⟨Tryz.f137.name,by decide,Tryz.func137.trans (congrArg some (by kernel_rfl))⟩
 f22:=⟨Tryz.f138.name,by decide,Tryz.func138.trans (congrArg some (by kernel_rfl))⟩
 f23:=⟨Tryz.f139.name,by decide,Tryz.func139.trans (congrArg some (by kernel_rfl))⟩
 f24:=⟨Tryz.f140.name,by decide,Tryz.func140.trans (congrArg some (by kernel_rfl))⟩
 f25:=⟨Tryz.f141.name,by decide,Tryz.func141.trans (congrArg some (by kernel_rfl))⟩
 f26:=⟨Tryz.f142.name,by decide,Tryz.func142.trans (congrArg some (by kernel_rfl))⟩
 f27:=⟨Tryz.f143.name,by decide,Tryz.func143.trans (congrArg some (by kernel_rfl))⟩
 f28:=Tryz.func118.trans (congrArg some (by kernel_rfl))
 f29:=Tryz.func119.trans (congrArg some (by kernel_rfl))
 f46:=⟨Tryz.f150.name,by decide,Tryz.func150.trans (congrArg some (by kernel_rfl))⟩
 f47:=Tryz.func145.trans (congrArg some (by kernel_rfl))
 f48:=Tryz.func146.trans (congrArg some (by kernel_rfl))
 f49:=⟨Tryz.f151.name,by decide,Tryz.func151.trans (congrArg some (by kernel_rfl))⟩
 f50:=⟨Tryz.f152.name,by decide,Tryz.func152.trans (congrArg some (by kernel_rfl))⟩
 f57:=⟨Tryz.f156.name,by decide,Tryz.func156.trans (congrArg some (by kernel_rfl))⟩
 t0:=Tryz.underlying0
 a0:=Tryz.isAgg0
 z0:=Tryz.sizeOf0
 v0:=Tryz.zeroValue0
 t3:=Tryz.underlying3
 a3:=Tryz.isAgg3
 z3:=Tryz.sizeOf3
 v3:=Tryz.zeroValue3
 t4:=Tryz.underlying4
 a4:=Tryz.isAgg4
 z4:=Tryz.sizeOf4
 v4:=Tryz.zeroValue4
 t5:=Tryz.underlying5
 a5:=Tryz.isAgg5
 z5:=Tryz.sizeOf5
 v5:=Tryz.zeroValue5
 t9:=Tryz.underlying9
 a9:=Tryz.isAgg9
 z9:=Tryz.sizeOf9
 v9:=Tryz.zeroValue9
 t22:=Tryz.underlying27
 a22:=Tryz.isAgg27
 z22:=Tryz.sizeOf27
 v22:=Tryz.zeroValue27
 t25:=Tryz.underlying92
 a25:=Tryz.isAgg92
 z25:=Tryz.sizeOf92
 v25:=Tryz.zeroValue92
 t39:=Tryz.underlying93
 a39:=Tryz.isAgg93
 z39:=Tryz.sizeOf93
 v39:=Tryz.zeroValue93
 t45:=Tryz.underlying141
 a45:=Tryz.isAgg141
 z45:=Tryz.sizeOf141
 v45:=Tryz.zeroValue141
 t46:=Tryz.underlying142
 a46:=Tryz.isAgg142
 z46:=Tryz.sizeOf142
 v46:=Tryz.zeroValue142
 t50:=Tryz.underlying146
 a50:=Tryz.isAgg146
 z50:=Tryz.sizeOf146
 v50:=Tryz.zeroValue146
 t53:=Tryz.underlying136
 a53:=Tryz.isAgg136
 z53:=Tryz.sizeOf136
 v53:=Tryz.zeroValue136
 t55:=Tryz.underlying138
 a55:=Tryz.isAgg138
 z55:=Tryz.sizeOf138
 v55:=Tryz.zeroValue138
 t66:=Tryz.underlying160
 a66:=Tryz.isAgg160
 z66:=Tryz.sizeOf160
 v66:=Tryz.zeroValue160
 t70:=Tryz.underlying164
 a70:=Tryz.isAgg164
 z70:=Tryz.sizeOf164
 v70:=Tryz.zeroValue164
 t76:=Tryz.underlying168
 a76:=Tryz.isAgg168
 z76:=Tryz.sizeOf168
 v76:=Tryz.zeroValue168
 t77:=Tryz.underlying169
 a77:=Tryz.isAgg169
 z77:=Tryz.sizeOf169
 v77:=Tryz.zeroValue169 }
end Go.Proofs
/- What is proved: a contract of slices.SortFunc at launches, by campaign.compare. Conditions: the slice is the call's own; its lists lie in blocks of their own. -/
namespace Go.Proofs.YtcnjenlojnognaaGreat
open Go.RowKit Go.Sort

/-- The numbers l lie in a block of their own. -/
def IntsO (w:World) (B:Nat) (A:Option Addr) (l:List Int):Prop:=Cl w B 3 1 A l.length fun i _=>.int .i64 (numI l i)
theorem IntsO.at {w:World} {B:Nat} {A:Option Addr} {l:List Int} (h:IntsO w B A l):IntsAt w w.heap.size A l:=Cl.sl h
theorem IntsO.later {w w':World} {B:Nat} {A:Option Addr} {l:List Int} (h:IntsO w B A l) (hb:Below w.heap.size w w'):IntsO w' B A l:=Cl.below h hb
/-- A turn of a block of another type leaves it alone. -/
theorem IntsO.other {w w':World} {B g:Nat} {A:Option Addr} {l:List Int} {T:TypeId} {cs:Array Value} (h:IntsO w B A l) (hg:Bk w g T cs) (hT:T ≠ 3) (hb:∀ k,k<w.heap.size→k ≠ g→w'.heap[k]?=w.heap[k]?):IntsO w' B A l :=
 ⟨h.1,fun hn=>by
  obtain ⟨b,cur,e,h1,h2,h3⟩:=h.2 hn
  refine ⟨b,cur,e,h1,?_,h3⟩
  have hne:b ≠ g:=fun e=>by
   subst e
   unfold Bk at h2 hg
   rw [h2] at hg
   injection hg with hg
   injection hg with _ hg _
   exact hT hg.symm
  exact (hb b h2.lt hne).trans h2⟩
/-- Block g holds the launches l, the lists of which lie in blocks of their own. -/
structure RowsO (w:World) (B g:Nat) (cur:Array Value) (l:List LaunchD) (P:Nat→Option Addr) (Q:Nat→Nat):Prop where
 lo:B≤g
 bk:Bk w g 52 cur
 row:∀ i,i<l.length→∀ j,j<4→cur[i * 4+j]?=some (launchR (l.getD i launch0) (P i) (Q i) j)
 ints:∀ i,i<l.length→IntsO w B (P i) (l.getD i launch0).cargos
/-- An element of such a row. -/
structure ElemO (w:World) (B:Nat) where
 x:LaunchD
 A:Option Addr
 n:Nat
 h:IntsO w B A x.cargos
instance (w:World) (B:Nat):Inhabited (ElemO w B):=⟨⟨launch0,none,0,Cl.nil _ _ _ _ _ _⟩⟩
def encO (w:World) (B:Nat) (t:ElemO w B):List Value:=[.int .i64 t.x.day,.int .i64 t.x.craft,.int .i64 t.x.pad,.slice t.A t.x.cargos.length t.n]
def cfO (w:World) (B:Nat) (x y:ElemO w B):Int:=cmpL x.x y.x
theorem ltO (w:World) (B:Nat) (x y:ElemO w B):ltOf (cfO w B) x y=decide (cmpL x.x y.x<0):=rfl
theorem swoL (w:World) (B:Nat):SWO (ltOf (cfO w B)) where
 irrefl x:=by rw [ltO,cmpL_irrefl];rfl
 trans x y z h1 h2:=by
  rw [ltO,decide_eq_true_eq] at *
  exact cmpL_trans h1 h2
 ntrans x y z h1 h2:=by
  rw [ltO,decide_eq_false_iff_not] at *
  have a:=cmpL_swap x.x y.x
  have b:=cmpL_swap y.x z.x
  have c:=cmpL_swap x.x z.x
  have:=cmpL_le_trans (x:=z.x) (y:=y.x) (z:=x.x) (by omega) (by omega)
  omega
theorem heap_sortK {α:Type} [Inhabited α] {w:World} {g m:Nat} {os:Array Obj} {enc:α→List Value} {d:Array α} {k:Nat} (hk:k<w.heap.size) (hne:k ≠ g):(sortWorldK enc 4 w g 0 m d os).heap[k]?=w.heap[k]?:=by
 unfold sortWorldK putRowK
 rw [heap_grow_old _ _ (by simpa [putRow,mapBlock,Sort.ahead] using hk)]
 simp [putRow,mapBlock,Sort.ahead,Array.getElem?_modify,Ne.symm hne]
theorem isAggL (w:World):(isAgg 52).run Tryz.prog w=.ok true w:=by kernel_rfl
theorem sizeOfL (w:World):(Go.sizeOf 52).run Tryz.prog w=.ok 4 w:=by kernel_rfl
theorem cmpLays (w:World) (B g:Nat) (cur:Array Value) (n:Nat) (hg:Bk w g 52 cur) :
  CmpLays Tryz.prog 82 #[] (encO w B) 4 (cfO w B) g 0 n w:=by
 intro m os dk _ x y
 have hx:IntsO (sortWorldK (encO w B) 4 w g 0 m dk os) B x.A x.x.cargos:=x.h.other hg (by decide) fun k h1 h2=>heap_sortK h1 h2
 have hy:IntsO (sortWorldK (encO w B) 4 w g 0 m dk os) B y.A y.x.cargos:=y.h.other hg (by decide) fun k h1 h2=>heap_sortK h1 h2
 exact (compare_any _ x.x y.x x.A y.A x.n y.n hx.at hy.at).mono fun _ _ ⟨a,q,os',b⟩=>⟨a,q,os',b⟩
theorem flat_get {α:Type} [Inhabited α] {enc:α→List Value} (d:Array α) {i j:Nat} (hi:i<d.size) (hj:j<4):(flatK enc 4 d)[i * 4+j]! = (enc d[i]!)[j]!:=by
 rw [get_flatK enc 4 d _ (by omega),show (i * 4+j) / 4=i from by omega,show (i * 4+j) % 4=j from by omega]
theorem encO_get (w:World) (B:Nat) (t:ElemO w B) {j:Nat} (hj:j<4):(encO w B t)[j]! = launchR t.x t.A t.n j:=by
 match j,hj with
 | 0,_=>rfl
 | 1,_=>rfl
 | 2,_=>rfl
 | 3,_=>rfl
set_option maxHeartbeats 2000000 in
theorem sortF_any (w:World) (B g c:Nat) (cur:Array Value) (l:List LaunchD) (P:Nat→Option Addr) (Q:Nat→Nat) (h:RowsO w B g cur l P Q) (hn:l.length≤4096) :
  Calls Tryz.prog 105 #[.slice (some ⟨g,0,none⟩) l.length c,.func (.func 82) #[] #[]] w fun e w'=>e=.returned (.tuple #[])∧(∃ cur' P' Q',RowsO w' B g cur' (sortL l) P' Q'∧cur'.size=cur.size)∧w.grownBy w' (some g):=by
 obtain ⟨D,hD⟩:∃ D:List (ElemO w B),D=List.ofFn (n:=l.length) fun i=>(⟨l.getD i launch0,P i,Q i,h.ints i i.2⟩:ElemO w B):=⟨_,rfl⟩
 have hDl:D.length=l.length:=by rw [hD,List.length_ofFn]
 have hDm:D.map (fun t=>t.x)=l:=by
  apply List.ext_getElem (by simp [hDl])
  intro i h1 h2
  have h3:i<l.length:=h2
  simp only [hD,List.getElem_map,List.getElem_ofFn]
  rw [List.getD_eq_getElem?_getD,List.getElem?_eq_getElem h3];rfl
 have hDi:∀ i (hi:i<l.length),D.toArray[i]! = (⟨l.getD i launch0,P i,Q i,h.ints i hi⟩:ElemO w B):=fun i hi=>by
  rw [getElem!_pos D.toArray i (by simpa [hDl] using hi)]
  simp only [hD,List.getElem_toArray,List.getElem_ofFn]
 have hsz:D.toArray.size=l.length:=by simp [hDl]
 have hcs:∀ t,t<l.length * 4→t<cur.size:=fun t ht=>by
  have:=h.row (t / 4) (by omega) (t % 4) (by omega)
  rw [show t / 4 * 4+t % 4=t from by omega] at this
  exact (Array.getElem?_eq_some_iff.1 this).1
 have hH:HoldsK (encO w B) 4 w g 0 D.toArray:=by
  intro t ht
  rw [size_flatK,hsz] at ht
  have hi:t / 4<l.length:=by omega
  have hj:t % 4<4:=by omega
  have e:t / 4 * 4+t % 4=t:=by omega
  refine ⟨?_,h.bk.free _⟩
  have hr:=h.row (t / 4) hi (t % 4) hj
  have hf:=flat_get (enc:=encO w B) D.toArray (i:=t / 4) (j:=t % 4) (by rw [hsz];exact hi) hj
  rw [e] at hr hf
  rw [Nat.zero_add,h.bk.cell,hr,hf,hDi _ hi,encO_get _ _ _ hj];rfl
 have hcon:=AnyQ.slices_SortFunc Tryz.sortL 4 isAggL sizeOfL (encO w B) (fun _=>rfl) (fun x v hv=>by simp [encO] at hv;rcases hv with rfl | rfl | rfl | rfl <;> rfl) (cfO w B) (swoL w B) 82 #[] g 0 c D.toArray w (fun args w=>by kernel_rfl) (cmpLays w B g cur _ h.bk) hH h.bk.lt (by rw [hsz];omega)
 rw [hsz] at hcon
 refine Calls.mono hcon ?_
 rintro e w' ⟨rfl,d',n,os,hp,hs,rfl⟩
 have hd's:d'.size=l.length:=by rw [hp.1,hsz]
 have hperm:d'.toList.Perm D:=by
  have:=hp.2.2
  have e1:d'.extract 0 l.length=d':=by rw [← hd's];simp
  have e2:D.toArray.extract 0 l.length=D.toArray:=by rw [← hsz];simp
  rw [e1,e2] at this
  simpa using this
 have hL:d'.toList.map (fun t=>t.x)=sortL l:=by
  refine sortL_eq ?_ ?_
  ·rw [← hDm];exact hperm.map _
  ·unfold SortedL
   rw [List.pairwise_map,List.pairwise_iff_getElem]
   intro i j hi hj hij
   have:=hs i j (Nat.zero_le _) hij (by rw [← hd's];simpa using hj)
   rw [ltO,decide_eq_false_iff_not] at this
   rw [getElem!_pos d' j (by simpa using hj),getElem!_pos d' i (by simpa using hi)] at this
   have hsw:=cmpL_swap d'[j].x d'[i].x
   simp only [Array.getElem_toList]
   omega
 have hLl:(sortL l).length=l.length:=(sortL_perm l).length_eq
 have hLi:∀ i,i<l.length→(sortL l).getD i launch0=(d'[i]!).x:=fun i hi=>by
  rw [← hL,List.getD_eq_getElem?_getD,List.getElem?_map,Array.getElem?_toList,Array.getElem?_eq_getElem (by rw [hd's];exact hi),getElem!_pos d' i (by rw [hd's];exact hi)];rfl
 refine ⟨rfl,⟨putCells id 0 (flatK (encO w B) 4 d') cur,fun i=>(d'[i]!).A,fun i=>(d'[i]!).n,⟨h.lo,?_,fun i hi j hj=>?_,fun i hi=>?_⟩,by simp [putCells]⟩,?_⟩
 ·have hb:=h.bk
  unfold Bk at hb ⊢
  unfold sortWorldK putRowK
  rw [heap_grow_old _ _ (by simpa [putRow,mapBlock,Sort.ahead] using h.bk.lt)]
  simp [putRow,mapBlock,Sort.ahead,Array.getElem?_modify,hb,onCells]
 ·rw [hLl] at hi
  have ht:i * 4+j<l.length * 4:=by omega
  have hf:=flat_get (enc:=encO w B) d' (i:=i) (j:=j) (by rw [hd's];exact hi) hj
  have hcz:=hcs _ ht
  rw [hLi i hi,← encO_get w B d'[i]! hj,← hf]
  simp only [putCells,Array.getElem?_mapIdx,Array.getElem?_eq_getElem hcz,Option.map_some,Nat.sub_zero]
  rw [if_pos ⟨Nat.zero_le _,by rw [size_flatK,hd's];omega⟩];rfl
 ·rw [hLl] at hi
  rw [hLi i hi]
  exact (d'[i]!).h.other h.bk (by decide) fun k h1 h2=>heap_sortK h1 h2
 ·refine ⟨rfl,rfl,rfl,by simp [sortWorldK,putRowK],fun k hk hne=>?_⟩
  exact heap_sortK hk fun e=>hne (by rw [e])
theorem sortF_none (w:World) (A:Option Addr) (c:Nat):Calls Tryz.prog 105 #[.slice A 0 c,.func (.func 82) #[] #[]] w fun e w'=>e=.returned (.tuple #[])∧w'=w :=
 AnyF.slices_SortFunc_none Tryz.sortL A c _ w
end Go.Proofs.YtcnjenlojnognaaGreat
/- What is proved: lists of launches that a call owns; a launch pushed behind others. Conditions: those that each lemma states. -/
namespace Go.Proofs.YtcnjenlojnognaaGreat
open Go.RowKit

theorem rowsL_succ (n k:Nat) (hk:0<k) (F:Nat→Nat→Value):rowsL (n+1) k F=rowsL n k F ++ (List.range k).map (F n):=by
 unfold rowsL
 rw [Nat.add_mul,Nat.one_mul,List.range_add,List.map_append,List.map_map]
 congr 1
 apply List.map_congr_left
 intro j hj
 have hj':=List.mem_range.1 hj
 simp only [Function.comp_apply]
 rw [Nat.mul_comm n k,Nat.mul_add_div hk,Nat.div_eq_of_lt hj',Nat.mul_add_mod,Nat.mod_eq_of_lt hj',Nat.add_zero]
theorem rowsL_congr (n k:Nat) (hk:0<k) {F G:Nat→Nat→Value} (h:∀ i,i<n→∀ j,j<k→F i j=G i j):rowsL n k F=rowsL n k G:=by
 unfold rowsL
 apply List.map_congr_left
 intro m hm
 have hm':=List.mem_range.1 hm
 exact h _ ((Nat.div_lt_iff_lt_mul hk).2 hm') _ (Nat.mod_lt _ hk)
def rowP (l:List LaunchD) (P:Nat→Option Addr) (Q:Nat→Nat) (i j:Nat):Value:=launchR (l.getD i launch0) (P i) (Q i) j
theorem infoL:(Tryz.prog.info? 52).map (fun i=>(i.zero,i.size,i.bytes))=some (some (.agg #[.int .i64 0,.int .i64 0,.int .i64 0,.slice none 0 0]),4,48):=by kernel_rfl
/-- v is a list of launches of the call's own. -/
structure OwnL (w:World) (B:Nat) (v:Value) (l:List LaunchD) (P:Nat→Option Addr) (Q:Nat→Nat):Prop where
 row:w.ownsRow B 52 4 v l.length (rowsL l.length 4 (rowP l P Q))
 ints:∀ i,i<l.length→IntsO w B (P i) (l.getD i launch0).cargos
theorem grown_below {w w':World} (h:Below w.heap.size w w') (row:Option Nat):w.grownBy w' row:=⟨h.os,h.tape,h.output,h.size,fun k hk _=>h.block k hk⟩
theorem OwnL.nil (w:World) (B:Nat) (P:Nat→Option Addr) (Q:Nat→Nat):OwnL w B (.slice none 0 0) [] P Q:=⟨World.ownsRow_nil _ _ _ _,fun i hi=>absurd hi (Nat.not_lt_zero i)⟩
theorem OwnL.later {w w':World} {B:Nat} {v:Value} {l:List LaunchD} {P:Nat→Option Addr} {Q:Nat→Nat} (h:OwnL w B v l P Q) (hb:Below w.heap.size w w'):OwnL w' B v l P Q :=
 ⟨h.row.kept (grown_below hb none) (by cases e:v.ownBlock with | none=>exact Or.inl rfl | some k=>exact Or.inr (by simp)),fun i hi=>(h.ints i hi).later hb⟩
/-- Its form. -/
theorem OwnL.form {w:World} {B:Nat} {v:Value} {l:List LaunchD} {P:Nat→Option Addr} {Q:Nat→Nat} (h:OwnL w B v l P Q) :
  ∃ A c,v=.slice A l.length c∧l.length≤c∧(∀ i,i<l.length→∃ g,A=some ⟨g,0,none⟩∧B≤g∧g<w.heap.size∧(∃ cur,Bk w g 52 cur)∧∀ j,j<4→w.cell? ⟨g,i * 4+j,none⟩=some (rowP l P Q i j)):=by
 rcases h.row.2 with ⟨rfl,h0⟩ | ⟨g,cap,cur,rfl,hb,hg,h1,h2,h3,h4⟩
 ·exact ⟨none,0,by rw [h0],by omega,fun i hi=>absurd hi (by omega)⟩
 ·refine ⟨_,cap,rfl,h1,fun i hi=>⟨g,rfl,hb,Bk.lt (t:=52) hg,⟨cur,hg⟩,fun j hj=>?_⟩⟩
  have:=rowsL_get l.length 4 (rowP l P Q) i j hi hj
  rw [← h4,List.getElem?_take] at this
  rw [Bk.cell (t:=52) hg]
  split at this
  ·simpa using this
  ·cases this
theorem OwnL.plan {w:World} {B:Nat} {A:Option Addr} {n c:Nat} {l:List LaunchD} {P:Nat→Option Addr} {Q:Nat→Nat} (h:OwnL w B (.slice A n c) l P Q) (hn:l.length≤4096):PlanAt w w.heap.size A l:=by
 obtain ⟨A',c',e,_,hf⟩:=h.form
 injection e with e1 _ _
 subst e1
 refine ⟨P,Q,⟨by omega,fun h0=>?_⟩,fun i hi=>(h.ints i hi).at⟩
 obtain ⟨g,e,_,hlt,_⟩:=hf 0 h0
 refine ⟨g,0,e,hlt,fun i hi j hj=>?_⟩
 obtain ⟨g',e',_,_,_,hc⟩:=hf i hi
 rw [e] at e'
 injection e' with e'
 injection e' with e'
 subst e'
 rw [Nat.zero_add]
 exact hc j hj
theorem OwnL.push {w w1:World} {B:Nat} {v v':Value} {l:List LaunchD} {P:Nat→Option Addr} {Q:Nat→Nat} {x:LaunchD} {A:Option Addr} {cl:Nat} (h:OwnL w B v l P Q) (hx:IntsO w B A x.cargos) (hg:w.grownBy w1 v.ownBlock)
  (hown:w1.ownsRow B 52 4 v' (l.length+1) (rowsL l.length 4 (rowP l P Q) ++ [.int .i64 x.day,.int .i64 x.craft,.int .i64 x.pad,.slice A x.cargos.length cl])) :
  OwnL w1 B v' (l ++ [x]) (fun i=>if i=l.length then A else P i) (fun i=>if i=l.length then cl else Q i):=by
 have hint:∀ {A':Option Addr} {m:List Int},IntsO w B A' m→IntsO w1 B A' m:=by
  intro A' m hm
  rcases h.row.2 with ⟨rfl,_⟩ | ⟨g,cap,cur,rfl,_,hgb,_⟩
  ·exact hm.later ⟨hg.os,hg.tape,hg.output,hg.size,fun k hk=>hg.block k hk (by simp [Value.ownBlock])⟩
  ·exact hm.other (T:=52) hgb (by decide) fun k hk hne=>hg.block k hk (by simp [Value.ownBlock];exact hne)
 have hgd:∀ i,i<l.length→(l ++ [x]).getD i launch0=l.getD i launch0:=fun i hi=>by
  rw [List.getD_eq_getElem?_getD,List.getElem?_append_left hi,← List.getD_eq_getElem?_getD]
 have hge:(l ++ [x]).getD l.length launch0=x:=by simp [List.getD_eq_getElem?_getD]
 refine ⟨?_,fun i hi=>?_⟩
 ·rw [List.length_append,List.length_singleton,rowsL_succ _ _ (by omega)]
  have e1:rowsL l.length 4 (rowP (l ++ [x]) (fun i=>if i=l.length then A else P i) (fun i=>if i=l.length then cl else Q i))=rowsL l.length 4 (rowP l P Q):=rowsL_congr _ _ (by omega) fun i hi j _=>by
   unfold rowP
   dsimp only
   rw [hgd i hi,if_neg (by omega),if_neg (by omega)]
  have e2:(List.range 4).map (rowP (l ++ [x]) (fun i=>if i=l.length then A else P i) (fun i=>if i=l.length then cl else Q i) l.length)=[.int .i64 x.day,.int .i64 x.craft,.int .i64 x.pad,.slice A x.cargos.length cl]:=by
   unfold rowP
   simp only [hge,if_true];rfl
  rw [e1,e2];exact hown
 ·rw [List.length_append,List.length_singleton] at hi
  show IntsO w1 B (if i=l.length then A else P i) _
  by_cases e:i=l.length
  ·rw [e,if_pos rfl,hge];exact hint hx
  ·rw [if_neg e,hgd i (by omega)];exact hint (h.ints i (by omega))
/-- A list of launches that a call has handed back. -/
structure PlanO (w:World) (B:Nat) (A:Option Addr) (l:List LaunchD):Prop where
 short:l.length≤4096
 rows:0<l.length→∃ g cur P Q,A=some ⟨g,0,none⟩∧RowsO w B g cur l P Q
theorem RowsO.plan {w:World} {B g:Nat} {cur:Array Value} {l:List LaunchD} {P:Nat→Option Addr} {Q:Nat→Nat} (h:RowsO w B g cur l P Q) (hn:l.length≤4096):PlanAt w w.heap.size (some ⟨g,0,none⟩) l :=
 ⟨P,Q,⟨by omega,fun _=>⟨g,0,rfl,h.bk.lt,fun i hi j hj=>by rw [Nat.zero_add,h.bk.cell];exact h.row i hi j hj⟩⟩,fun i hi=>(h.ints i hi).at⟩
theorem PlanO.at {w:World} {B:Nat} {A:Option Addr} {l:List LaunchD} (h:PlanO w B A l):PlanAt w w.heap.size A l:=by
 by_cases h0:0<l.length
 ·obtain ⟨g,cur,P,Q,rfl,hr⟩:=h.rows h0
  exact hr.plan h.short
 ·rw [List.length_eq_zero_iff.1 (by omega:l.length=0)]
  exact PlanAt.nil _ _ _
theorem RowsO.later {w w':World} {B g:Nat} {cur:Array Value} {l:List LaunchD} {P:Nat→Option Addr} {Q:Nat→Nat} (h:RowsO w B g cur l P Q) (hb:Below w.heap.size w w'):RowsO w' B g cur l P Q :=
 ⟨h.lo,h.bk.below hb h.bk.lt,h.row,fun i hi=>(h.ints i hi).later hb⟩
theorem PlanO.later {w w':World} {B:Nat} {A:Option Addr} {l:List LaunchD} (h:PlanO w B A l) (hb:Below w.heap.size w w'):PlanO w' B A l :=
 ⟨h.short,fun h0=>by obtain ⟨g,cur,P,Q,e,hr⟩:=h.rows h0;exact ⟨g,cur,P,Q,e,hr.later hb⟩⟩
theorem PlanO.nil (w:World) (B:Nat) (A:Option Addr):PlanO w B A []:=⟨by simp,fun h=>absurd h (by simp)⟩
theorem OwnL.rows {w:World} {B:Nat} {v:Value} {l:List LaunchD} {P:Nat→Option Addr} {Q:Nat→Nat} (h:OwnL w B v l P Q) (h0:0<l.length):∃ g c cur,v=.slice (some ⟨g,0,none⟩) l.length c∧l.length≤c∧RowsO w B g cur l P Q:=by
 rcases h.row.2 with ⟨rfl,h1⟩ | ⟨g,cap,cur,rfl,hb,hg,h1,h2,h3,h4⟩
 ·omega
 ·refine ⟨g,cap,cur,rfl,h1,hb,hg,fun i hi j hj=>?_,h.ints⟩
  have:=rowsL_get l.length 4 (rowP l P Q) i j hi hj
  rw [← h4,List.getElem?_take] at this
  split at this
  ·simpa [rowP] using this
  ·cases this
/-- A launch pushed behind one. -/
def pushS (c:CampD) (x y:LaunchD):LaunchD:={ x with day:=(fun d=>if y.pad=x.pad then max d (y.day+(c.pad x.pad).clean) else d) (if y.craft=x.craft then max x.day (y.day+(c.craft x.craft).again) else x.day) }
theorem pushB_fold (c:CampD):∀ (l:List LaunchD) (x:LaunchD),pushB c x l=l.foldl (pushS c) x
 | [],_=>rfl
 | _ :: l,_=>pushB_fold c l _
theorem pushF_rest (c:CampD):∀ (l:List LaunchD) (x:LaunchD),(l.foldl (pushS c) x).craft=x.craft∧(l.foldl (pushS c) x).pad=x.pad∧(l.foldl (pushS c) x).cargos=x.cargos
 | [],_=>⟨rfl,rfl,rfl⟩
 | _ :: l,_=>pushF_rest c l _
theorem pushF_day {c:CampD} (hc:campB c=true) (m:Int):∀ (l:List LaunchD) (x:LaunchD),0≤x.day→x.day≤m+10000→(∀ y ∈ l,0≤y.day∧y.day≤m)→0≤(l.foldl (pushS c) x).day∧(l.foldl (pushS c) x).day≤m+10000
 | [],_,h1,h2,_=>⟨h1,h2⟩
 | y :: l,x,h1,h2,h3=>by
  have hy:=h3 y (by simp)
  have ha:=camp_craft hc x.craft
  have hp:=camp_pad hc x.pad
  refine pushF_day hc m l (pushS c x y) ?_ ?_ fun z hz=>h3 z (List.mem_cons_of_mem _ hz)
  ·unfold pushS;dsimp only;split <;> split <;> omega
  ·unfold pushS;dsimp only;split <;> split <;> omega
theorem delayK_len (c:CampD) (l:List LaunchD) (i days:Int):∀ j,(delayK c l i days j).length=j
 | 0=>rfl
 | j+1=>by unfold delayK;rw [List.length_append,delayK_len c l i days j];rfl
/-- The launch that comes next, ahead of what pushes it. -/
def stepX (l:List LaunchD) (i days:Int) (j:Nat):LaunchD:=if (j:Int)=i then { (l.getD j launch0) with day:=(l.getD j launch0).day+days } else l.getD j launch0
theorem delayK_succ (c:CampD) (l:List LaunchD) (i days:Int) (j:Nat):delayK c l i days (j+1)=delayK c l i days j ++ [if i<(j:Int) then (delayK c l i days j).foldl (pushS c) (stepX l i days j) else stepX l i days j]:=by
 show delayK c l i days j ++ [_]=_
 congr 2
 unfold stepX
 dsimp only
 by_cases h:i<(j:Int)
 ·rw [if_pos h,if_pos h,if_neg (by omega),pushB_fold]
 ·rw [if_neg h,if_neg h]
theorem delayK_day {c:CampD} (hc:campB c=true) (l:List LaunchD) (i days:Int) (hl:∀ x ∈ l,0≤x.day∧x.day≤10000) (hd:0≤days∧days≤10001):∀ j,∀ y ∈ delayK c l i days j,0≤y.day∧y.day≤10001+10000 * (j+1:Nat)
 | 0,y,h=>(List.not_mem_nil h).elim
 | j+1,y,h=>by
  have ih:=delayK_day hc l i days hl hd j
  rw [delayK_succ] at h
  rcases List.mem_append.1 h with h | h
  ·have:=ih y h;omega
  ·have hx:0≤(stepX l i days j).day∧(stepX l i days j).day≤20001:=by
    have h0:0≤(l.getD j launch0).day∧(l.getD j launch0).day≤10000:=by
     rw [List.getD_eq_getElem?_getD]
     cases e:l[j]? with
     | none=>exact ⟨Int.le_refl 0,by decide⟩
     | some z=>exact hl z (List.mem_of_getElem? e)
    unfold stepX
    split
    ·dsimp only;omega
    ·omega
   rw [List.mem_singleton] at h
   rw [h]
   by_cases hi:i<(j:Int)
   ·rw [if_pos hi]
    have:=pushF_day hc (10001+10000 * (j+1:Nat)) _ (stepX l i days j) hx.1 (by omega) ih
    omega
   ·rw [if_neg hi];omega
end Go.Proofs.YtcnjenlojnognaaGreat
/- What is proved: a contract of campaign.delayed. Conditions: the campaign is valid; the plan's launches are possible; the lists lie in memory. -/
namespace Go.Proofs.YtcnjenlojnognaaGreat
open Go.RowKit

theorem IntsO.mono {w:World} {B B':Nat} {A:Option Addr} {l:List Int} (h:IntsO w B A l) (hb:B'≤B):IntsO w B' A l :=
 ⟨h.1,fun hn=>by obtain ⟨g,cur,e,h1,h2,h3⟩:=h.2 hn;exact ⟨g,cur,e,by omega,h2,h3⟩⟩
/-- The launch that is being delayed, behind q of those ahead of it. -/
def midX (c:CampD) (l:List LaunchD) (i days:Int) (k q:Nat):LaunchD:=if i<(k:Int) then ((delayK c l i days k).take q).foldl (pushS c) (stepX l i days k) else stepX l i days k
theorem midX_zero (c:CampD) (l:List LaunchD) (i days:Int) (k:Nat):midX c l i days k 0=stepX l i days k:=by unfold midX;split <;> rfl
theorem midX_succ (c:CampD) (l:List LaunchD) (i days:Int) (k q:Nat) (hq:q<k):midX c l i days k (q+1)=if i<(k:Int) then pushS c (midX c l i days k q) ((delayK c l i days k).getD q launch0) else midX c l i days k q:=by
 unfold midX
 by_cases h:i<(k:Int)
 ·rw [if_pos h,if_pos h,if_pos h,take_snocL _ _ (by rw [delayK_len];exact hq),List.foldl_append];rfl
 ·rw [if_neg h,if_neg h,if_neg h]
theorem midX_end (c:CampD) (l:List LaunchD) (i days:Int) (k:Nat):delayK c l i days (k+1)=delayK c l i days k ++ [midX c l i days k k]:=by
 rw [delayK_succ]
 unfold midX
 rw [List.take_of_length_le (by rw [delayK_len];exact Nat.le_refl _)]
theorem midX_rest (c:CampD) (l:List LaunchD) (i days:Int) (k q:Nat):(midX c l i days k q).craft=(l.getD k launch0).craft∧(midX c l i days k q).pad=(l.getD k launch0).pad∧(midX c l i days k q).cargos=(l.getD k launch0).cargos:=by
 have h0:(stepX l i days k).craft=(l.getD k launch0).craft∧(stepX l i days k).pad=(l.getD k launch0).pad∧(stepX l i days k).cargos=(l.getD k launch0).cargos:=by unfold stepX;split <;> exact ⟨rfl,rfl,rfl⟩
 unfold midX
 split
 ·have:=pushF_rest c ((delayK c l i days k).take q) (stepX l i days k)
  rw [this.1,this.2.1,this.2.2];exact h0
 ·exact h0
theorem midX_day {c:CampD} (hc:campB c=true) (l:List LaunchD) (i days:Int) (hl:∀ x ∈ l,0≤x.day∧x.day≤10000) (hd:0≤days∧days≤10001) (k q:Nat):0≤(midX c l i days k q).day∧(midX c l i days k q).day≤20001+10000 * (k+1:Nat):=by
 have hx:0≤(stepX l i days k).day∧(stepX l i days k).day≤20001:=by
  have h0:0≤(l.getD k launch0).day∧(l.getD k launch0).day≤10000:=by
   rw [List.getD_eq_getElem?_getD]
   cases e:l[k]? with
   | none=>exact ⟨Int.le_refl 0,by decide⟩
   | some z=>exact hl z (List.mem_of_getElem? e)
  unfold stepX
  split
  ·dsimp only;omega
  ·omega
 unfold midX
 split
 ·have:=pushF_day hc (10001+10000 * (k+1:Nat)) ((delayK c l i days k).take q) (stepX l i days k) hx.1 (by omega) fun y hy=>delayK_day hc l i days hl hd k y (List.mem_of_mem_take hy)
  omega
 ·omega
def cellX (d ic ip:Int) (A:Option Addr) (n cl:Nat):Array Value:=#[.int .i64 d,.int .i64 ic,.int .i64 ip,.slice A n cl]
/-- The box of the launch that is being delayed. -/
def DelR (wr:World) (qx qb:Nat) (d ic ip:Int) (A:Option Addr) (n cl:Nat) (cg:List Int) (w':World):Prop:=Below qx wr w'∧Bk w' qx 52 (cellX d ic ip A n cl)∧IntsO w' qb A cg
theorem DelR.alloc {wr w':World} {qx qb:Nat} {d ic ip:Int} {A:Option Addr} {n cl:Nat} {cg:List Int} (h:DelR wr qx qb d ic ip A n cl cg w') (hq:qx=wr.heap.size) (o:Obj):DelR wr qx qb d ic ip A n cl cg (w'.alloc o):=by
 subst hq;exact ⟨h.1.alloc h.1.size o,h.2.1.alloc o,h.2.2.later ((Below.refl _ _).alloc (Nat.le_refl _) o)⟩
theorem DelR.drew {wr w':World} {qx qb:Nat} {d ic ip:Int} {A:Option Addr} {n cl:Nat} {cg:List Int} (h:DelR wr qx qb d ic ip A n cl cg w'):DelR wr qx qb d ic ip A n cl cg w'.drew :=
 ⟨h.1.drew,h.2.1,h.2.2.later (Below.refl _ _).drew⟩
theorem DelR.set {wr w':World} {qx qb:Nat} {d ic ip:Int} {A:Option Addr} {n cl:Nat} {cg:List Int} (h:DelR wr qx qb d ic ip A n cl cg w') (d':Int):DelR wr qx qb d' ic ip A n cl cg (w'.setCell ⟨qx,0,none⟩ (.int .i64 d')) :=
 ⟨h.1.setCell (p:=⟨qx,0,none⟩) (Nat.le_refl _) _,by have:=h.2.1.set 0 (.int .i64 d');exact this,h.2.2.other h.2.1 (by decide) fun k _ hne=>(Only.setCell w' qx 0 _).block k hne⟩
def DelR2 (wr:World) (qx qb yb:Nat) (yc:Array Value) (d ic ip:Int) (A:Option Addr) (n cl:Nat) (cg:List Int) (w':World):Prop:=DelR wr qx qb d ic ip A n cl cg w'∧Bk w' yb 52 yc
def DelPost (c:CampD) (l:List LaunchD) (i days:Int) (w:World) (e:Ending) (w':World):Prop:=∃ A c',e=.returned (.slice A l.length c')∧l.length≤c'∧PlanO w' w.heap.size A (delayedB c l i days)∧Below w.heap.size w w'
set_option maxRecDepth 100000 in
set_option maxHeartbeats 16000000 in
theorem delayed_any (w:World) (V:CV) (c:CampD) (h:CampAt w w.heap.size V c) (hc:campB c=true) (l:List LaunchD) (AL:Option Addr) (cL:Nat) (hp:PlanAt w w.heap.size AL l) (hv:∀ x ∈ l,possB c x=true) (hn:l.length≤2000) (i days:Int) (hd:0≤days∧days≤10001) :
  Calls Tryz.prog 75 #[.agg (campA V c),.slice AL l.length cL,.int .i64 i,.int .i64 days] w (DelPost c l i days w):=by
 obtain ⟨qb,hqb⟩:∃ qb,w.heap.size=qb:=⟨_,rfl⟩
 obtain ⟨W0,hW0⟩:∃ W0,w.alloc (.cells (campA V c) 26)=W0:=⟨_,rfl⟩
 have hb0:Below w.heap.size w W0:=by rw [← hW0];exact (Below.refl _ w).alloc (Nat.le_refl _) _
 have HB0:Hid (Below qb w W0):=Lib.hid (by rw [← hqb];exact hb0)
 have HKC:Hid (Bk W0 qb 26 (campA V c)):=Lib.hid (by rw [← hW0,← hqb];exact Bk.new _ _ _)
 have HSZ:Hid (qb≤W0.heap.size):=Lib.hid (by have:=HKC.out.lt;omega)
 have HCA:=Lib.hid (h.later hb0)
 have HPA:=Lib.hid (hp.later hb0)
 obtain ⟨nl,hnl⟩:∃ nl,l.length=nl:=⟨_,rfl⟩
 have HNL:=Lib.hid hnl
 have hdl:∀ x ∈ l,0≤x.day∧x.day≤10000:=fun x hx=>possB_day hc (hv x hx)
 have HDK:=Lib.hid fun k=>delayK_day hc l i days hdl hd k
 have HMX:=Lib.hid fun k q=>midX_day hc l i days hdl hd k q
 have HV:=Lib.hid hv
 have HCAMP:=Lib.hid hc
 obtain ⟨PQ,hPQ⟩:∃ Q,DelPost c l i days w=Q:=⟨_,rfl⟩
 have HFIN:Hid (∀ (A:Option Addr) (c':Nat) (w':World),nl≤c'→PlanO w' qb A (delayedB c l i days)→Below qb w w'→PQ (.returned (.slice A nl c')) w'):=Lib.hid fun A c' w' h1 h2 h3=>by
  rw [← hPQ];exact ⟨A,c',by rw [hnl],by rw [hnl];exact h1,by rw [hqb];exact h2,by rw [hqb];exact h3⟩
 have hlen:=camp_len hc
 obtain ⟨nc,hnc⟩:∃ nc,c.crafts.length=nc:=⟨_,rfl⟩
 obtain ⟨np,hnp⟩:∃ np,c.pads.length=np:=⟨_,rfl⟩
 have hn3:nc≤3:=by omega
 have hn2:np≤2:=by omega
 have HNC:=Lib.hid hnc
 have HNP:=Lib.hid hnp
 have hd0:=hd.1
 have hd1:=hd.2
 obtain ⟨i0,hi,hz0,hz1,hz2⟩:=info_parts infoL
 have HIL:=Lib.hid hi
 have HZ0:=Lib.hid hz0
 have HZ1:=Lib.hid hz1
 have HZ2:=Lib.hid hz2
 clear hi hz0 hz1 hz2
 rw [hnl] at hn ⊢
 rw [hPQ]
 clear h hp hb0 hnl hv hdl hc hPQ hlen hd
 simp only [campA] at hW0 ⊢
 rw [hnc,hnp] at hW0 ⊢
 have HC:Hid (∀ w1,Below W0.heap.size W0 w1→w1.cell? ⟨qb,0,none⟩=some (.slice V.cA nc V.cc)∧w1.cell? ⟨qb,1,none⟩=some (.slice V.pA np V.pc)):=Lib.hid fun w1 hb=>by
  have k:=HKC.out.below hb HKC.out.lt
  rw [← hnc,← hnp];exact ⟨k.cell 0,k.cell 1⟩
 clear hnc hnp
 go_enter Tryz.func75,Tryz.ntmps75
 go_upto_region 2 with (fail)
 clear hW0 hqb
 go_wp2_with fail
 go_loopw [9,16] (fun v iv wr=>∃ (k:Nat) (P:Nat→Option Addr) (Q:Nat→Nat),k≤nl∧iv=.int .i64 k∧Hid (Below W0.heap.size W0 wr∧OwnL wr W0.heap.size v (delayK c l i days k) P Q)) (fun _ iv _=>nl - (intOf iv).toNat)
 case atStart=>exact ⟨0,fun _=>none,fun _=>0,Nat.zero_le _,rfl,Lib.hid ⟨Below.refl _ _,OwnL.nil _ _ _ _⟩⟩
 case round =>
  obtain ⟨wo,rfl⟩:∃ wo:World,wo=wr:=⟨_,rfl⟩
  obtain ⟨k,P,Q,hk,rfl,hs⟩:=hrel
  obtain ⟨A9,c9,hform,hc9,hrows⟩:=hs.out.2.form
  rw [delayK_len] at hform hc9 hrows
  subst hform
  have HB:=Lib.hid hs.out.1
  have HO:=Lib.hid hs.out.2
  have HROWS:=Lib.hid hrows
  clear hs hrows
  have h0k:(0:Int)≤(k:Int):=by omega
  by_cases hlt:k<nl
  ·have hki:(k:Int)<(nl:Int):=by omega
   obtain ⟨bb,off,P0,Q0,rfl,hbb,d0,d1,d2,d3,dl⟩:=(HPA.out.later HB.out).at4 (i:=k) (by rw [HNL.out];exact hlt)
   obtain ⟨x,hx⟩:∃ x,l.getD k launch0=x:=⟨_,rfl⟩
   have HX:=Lib.hid hx
   have hxm:x ∈ l:=by rw [← hx,List.getD_eq_getElem?_getD,List.getElem?_eq_getElem (by rw [HNL.out];exact hlt),Option.getD_some];exact List.getElem_mem _
   have hxp:=possB_parts (HV.out x hxm)
   have hxd:=possB_day HCAMP.out (HV.out x hxm)
   rw [hx] at d0 d1 d2 d3 dl
   obtain ⟨ic,hic⟩:∃ ic:Nat,x.craft=(ic:Int):=⟨x.craft.toNat,by have:=hxp.1;omega⟩
   obtain ⟨ip,hip⟩:∃ ip:Nat,x.pad=(ip:Int):=⟨x.pad.toNat,by have:=hxp.2.2.1;omega⟩
   obtain ⟨xd,hxdv⟩:∃ d,x.day=d:=⟨_,rfl⟩
   obtain ⟨nx,hnx⟩:∃ n,x.cargos.length=n:=⟨_,rfl⟩
   have hici:ic<nc:=by have:=hxp.2.1;rw [HNC.out] at this;omega
   have hipi:ip<np:=by have:=hxp.2.2.2.1;rw [HNP.out] at this;omega
   have HMR:=Lib.hid fun q=>midX_rest c l i days k q
   rw [hxdv] at d0 hxd
   rw [hic] at d1
   rw [hip] at d2
   rw [hnx] at d3
   rw [HX.out,hic,hip] at HMR
   have hnx6:nx≤6:=by have:=rise_len hxp.2.2.2.2.2.2.2.2.1;have h2:=camp_len HCAMP.out;omega
   obtain ⟨W2,hW2⟩:∃ W2,wo.alloc (.cells (cellX xd ic ip P0 nx Q0) 52)=W2:=⟨_,rfl⟩
   have hb2:Below wo.heap.size wo W2:=by rw [← hW2];exact (Below.refl _ wo).alloc (Nat.le_refl _) _
   obtain ⟨qx,hqx⟩:∃ qx,wo.heap.size=qx:=⟨_,rfl⟩
   have HK2:Hid (Bk W2 qx 52 (cellX xd ic ip P0 nx Q0)):=Lib.hid (by rw [← hW2,← hqx];exact Bk.new _ _ _)
   have HQX:Hid (wo.heap.size=qx):=Lib.hid hqx
   have HB2:Hid (Below qx wo W2):=Lib.hid (by rw [← hqx];exact hb2)
   have hcl:=cloneInt W2 P0 x.cargos.length Q0 _ (dl.later hb2) (fun _ _=>rfl) (by omega)
   rw [hnx] at hcl
   have HCL:=Lib.hid hcl
   have HNX:=Lib.hid hnx
   have HIC:=Lib.hid hic
   have HIP:=Lib.hid hip
   have HXD:=Lib.hid hxdv
   have q3:W2.cell? ⟨qx,3,none⟩=some (.slice P0 nx Q0):=HK2.out.cell 3
   clear hx hxm hxp hic hip hxdv hnx dl hb2 hcl
   simp only [cellX] at hW2
   go_upto_region 5 with (fail)
   clear hqx hW2 d0 d1 d2 d3
   go_wp2_with fail
   refine HCL.out.mono ?_
   rintro e W3 ⟨A2,c2,rfl,hcl,hb3⟩
   have HK3:=Lib.hid (HK2.out.below hb3 HK2.out.lt)
   have q3:W3.cell? ⟨qx,3,none⟩=some (.slice P0 nx Q0):=HK3.out.cell 3
   have f3:W3.frozen? ⟨qx,3,none⟩=false:=HK3.out.free 3
   have HI3:Hid (IntsO W3 W0.heap.size A2 x.cargos):=Lib.hid (by
    have h1:IntsO W3 W2.heap.size A2 x.cargos:=by unfold IntsO;rw [HNX.out];exact hcl
    refine h1.mono ?_
    have h2:=HB.out.size
    have h3:=HB2.out.size
    have h4:=HSZ.out
    omega)
   have HB3:Hid (Below qx wo W3):=Lib.hid (HB2.out.trans (hb3.mono (by have:=HK2.out.lt;omega)))
   clear hcl hb3 HCL
   go_upto_if 27 with (fail)
   obtain ⟨W4,hW4⟩:∃ W4,W3.setCell ⟨qx,3,none⟩ (.slice A2 nx c2)=W4:=⟨_,rfl⟩
   have HD4:Hid (DelR wo qx W0.heap.size xd ic ip A2 nx c2 x.cargos W4):=Lib.hid (by
    rw [← hW4]
    exact ⟨HB3.out.setCell (p:=⟨qx,3,none⟩) (Nat.le_refl _) _,by have:=HK3.out.set 3 (.slice A2 nx c2);exact this,HI3.out.other HK3.out (by decide) fun k _ hne=>(Only.setCell W3 qx 3 _).block k hne⟩)
   rw [hW4]
   clear hW4 q3 f3
   have q0:W4.cell? ⟨qx,0,none⟩=some (.int .i64 xd):=HD4.out.2.1.cell 0
   have f0:W4.frozen? ⟨qx,0,none⟩=false:=HD4.out.2.1.free 0
   obtain ⟨sd,hsd⟩:∃ d,(stepX l i days k).day=d:=⟨_,rfl⟩
   have HSD:Hid (sd=if (k:Int)=i then xd+days else xd):=Lib.hid (by rw [← hsd];unfold stepX;split <;> rw [HX.out,← HXD.out])
   have HSD2:Hid ((midX c l i days k 0).day=sd):=Lib.hid (by rw [midX_zero];exact hsd)
   clear hsd
   go_cut [28] (fun _ w'=>DelR wo qx W0.heap.size sd ic ip A2 nx c2 x.cargos w')
   case first =>
    by_cases hki2:(k:Int)=i
    ·have HSS:Hid (sd=xd+days):=Lib.hid (by rw [HSD.out,if_pos hki2])
     have hke:((k:Int) == i)=true:=by rw [beq_iff_eq];exact hki2
     have hx0:=hxd.1
     have hx1:=hxd.2
     have hws:IntKind.i64.wrap (xd+days)=xd+days:=IntWalk.i64_in _ (by omega)
     clear hki2
     go_wp2_with fail
     go_meet
     case rel=>rw [HSS.out];exact HD4.out.set _
    ·have HSS:Hid (sd=xd):=Lib.hid (by rw [HSD.out,if_neg hki2])
     have hke:((k:Int) == i)=false:=by rw [beq_eq_false_iff_ne];exact hki2
     clear hki2
     go_wp2_with fail
     go_meet
     case rel=>rw [HSS.out];exact HD4.out
   case rest =>
    have HC5:=Lib.hid hcut
    clear hcut q0 f0
    have HWC:Hid (Below qx wo wc):=Lib.hid HC5.out.1
    go_wp2_with fail
    go_loopw [35] (fun qv wi=>∃ q:Nat,q≤k∧qv=.int .i64 q∧Hid (DelR wo qx W0.heap.size (midX c l i days k q).day ic ip A2 nx c2 x.cargos wi)) (fun qv _=>k - (intOf qv).toNat)
    case atStart=>exact ⟨0,Nat.zero_le _,rfl,Lib.hid (by rw [HSD2.out];exact HC5.out)⟩
    case round =>
     obtain ⟨q,hq,rfl,hin⟩:=hrel
     obtain ⟨dq,hdq⟩:∃ d,(midX c l i days k q).day=d:=⟨_,rfl⟩
     have HDQ:=Lib.hid hdq
     have hdb:=HMX.out k q
     rw [hdq] at hin hdb
     obtain ⟨hdb0,hdb1⟩:=hdb
     have hdb2:dq≤20030001:=by omega
     clear hdq hdb1
     have h0q:(0:Int)≤(q:Int):=by omega
     by_cases hqk:q<k
     ·have hqi:(q:Int)<(k:Int):=by omega
      obtain ⟨gr,rfl,hg1,hg2,_,hgc⟩:=HROWS.out q hqk
      obtain ⟨y,hy⟩:∃ y,(delayK c l i days k).getD q launch0=y:=⟨_,rfl⟩
      have hym:y ∈ delayK c l i days k:=by rw [← hy,List.getD_eq_getElem?_getD,List.getElem?_eq_getElem (by rw [delayK_len];exact hqk),Option.getD_some];exact List.getElem_mem _
      have hyd:=HDK.out k y hym
      obtain ⟨ny,hny⟩:∃ n,y.cargos.length=n:=⟨_,rfl⟩
      have HY:=Lib.hid hy
      have hcell:∀ j,j<4→wr.cell? ⟨gr,q * 4+j,none⟩=some (launchR y (P q) (Q q) j):=fun j hj=>by
       rw [← hy]
       exact (hin.out.1.cell (p:=⟨gr,q * 4+j,none⟩) (by show gr<qx;rw [← HQX.out];exact hg2)).trans (hgc j hj)
      have e0:wr.cell? ⟨gr,q * 4,none⟩=some (.int .i64 y.day):=hcell 0 (by omega)
      have e1:wr.cell? ⟨gr,q * 4+1,none⟩=some (.int .i64 y.craft):=hcell 1 (by omega)
      have e2:wr.cell? ⟨gr,q * 4+2,none⟩=some (.int .i64 y.pad):=hcell 2 (by omega)
      have e3:wr.cell? ⟨gr,q * 4+3,none⟩=some (.slice (P q) y.cargos.length (Q q)):=hcell 3 (by omega)
      rw [hny] at e3
      obtain ⟨yd,hydv⟩:∃ d,y.day=d:=⟨_,rfl⟩
      obtain ⟨yc,hycv⟩:∃ d,y.craft=d:=⟨_,rfl⟩
      obtain ⟨yp,hypv⟩:∃ d,y.pad=d:=⟨_,rfl⟩
      rw [hydv] at e0 hyd
      rw [hycv] at e1
      rw [hypv] at e2
      obtain ⟨hyd0,hyd1⟩:=hyd
      have hyd2:yd≤20030001:=by omega
      obtain ⟨W5,hW5⟩:∃ W5,wr.alloc (.cells (cellX yd yc yp (P q) ny (Q q)) 52)=W5:=⟨_,rfl⟩
      obtain ⟨yb,hyb⟩:∃ yb,wr.heap.size=yb:=⟨_,rfl⟩
      have HR5:Hid (DelR2 wo qx W0.heap.size yb (cellX yd yc yp (P q) ny (Q q)) dq ic ip A2 nx c2 x.cargos W5):=Lib.hid (by
       rw [← hW5,← hyb]
       exact ⟨hin.out.alloc HQX.out.symm _,Bk.new _ _ _⟩)
      have HYX:Hid (yb ≠ qx):=Lib.hid (by have:=hin.out.2.1.lt;rw [← hyb];omega)
      obtain ⟨ag,hag⟩:∃ a,(c.craftN ic).again=a:=⟨_,rfl⟩
      obtain ⟨cn,hcn⟩:∃ a,(c.padN ip).clean=a:=⟨_,rfl⟩
      have hagb:=camp_craft HCAMP.out (ic:Int)
      have hcnb:=camp_pad HCAMP.out (ip:Int)
      rw [craft_nat,hag] at hagb
      rw [pad_nat,hcn] at hcnb
      obtain ⟨hag0,hag1,_⟩:=hagb
      obtain ⟨hcn0,hcn1⟩:=hcnb
      obtain ⟨d1,hd1v⟩:∃ d,(if i<(k:Int)∧yc=(ic:Int) then max dq (yd+ag) else dq)=d:=⟨_,rfl⟩
      obtain ⟨d2,hd2v⟩:∃ d,(if i<(k:Int)∧yp=(ip:Int) then max d1 (yd+cn) else d1)=d:=⟨_,rfl⟩
      have hd1b:0≤d1∧d1≤20040001:=by rw [← hd1v];split <;> omega
      have HNEXT:Hid ((midX c l i days k (q+1)).day=d2):=Lib.hid (by
       rw [midX_succ _ _ _ _ _ _ hqk,HY.out,← hd2v,← hd1v]
       by_cases hik:i<(k:Int)
       ·rw [if_pos hik]
        have hm:=HMR.out q
        unfold pushS
        dsimp only
        rw [hm.1,hm.2.1,hycv,hypv,hydv,HDQ.out,craft_nat,pad_nat,hag,hcn]
        simp only [hik,true_and]
       ·rw [if_neg hik,HDQ.out,if_neg (fun h=>hik h.1),if_neg (fun h=>hik h.1)])
      have HD1:=Lib.hid hd1v
      have HD2:=Lib.hid hd2v
      have HBK:Hid (∀ w1,Below qx wo w1→w1.cell? ⟨qb,0,none⟩=some (.slice V.cA nc V.cc)∧w1.cell? ⟨qb,1,none⟩=some (.slice V.pA np V.pc)∧∃ cb co pb po,V.cA=some ⟨cb,co,none⟩∧V.pA=some ⟨pb,po,none⟩∧w1.cell? ⟨cb,co+ic * 4+3,none⟩=some (.int .i64 ag)∧w1.cell? ⟨pb,po+ip * 3+1,none⟩=some (.int .i64 cn)):=Lib.hid fun w1 hb=>by
       have hb':=HB.out.trans (hb.mono (by rw [← HQX.out];exact HB.out.size))
       obtain ⟨k0,k1⟩:=HC.out w1 hb'
       obtain ⟨cb,co,hcA,_,_,_,_,g3⟩:=Sl.at4 (HCA.out.later hb').crafts (i:=ic) (by rw [HNC.out];exact hici)
       obtain ⟨pb,po,hpA,_,_,g1,_⟩:=Sl.at3 (HCA.out.later hb').pads (i:=ip) (by rw [HNP.out];exact hipi)
       dsimp only [craftC] at g3
       dsimp only [padC] at g1
       rw [hag] at g3
       rw [hcn] at g1
       exact ⟨k0,k1,cb,co,pb,po,hcA,hpA,g3,g1⟩
      have hici2:(ic:Int)<(nc:Int):=by omega
      have hipi2:(ip:Int)<(np:Int):=by omega
      have h0ic:(0:Int)≤(ic:Int):=by omega
      have h0ip:(0:Int)≤(ip:Int):=by omega
      have hd10:=hd1b.1
      have hd11:=hd1b.2
      clear hy hym hcell hny hydv hycv hypv hyd1 hag hcn hd1v hd2v hd1b hgc
      simp only [cellX] at hW5
      by_cases hik:i<(k:Int)
      case neg =>
       have hik2:decide (i<(k:Int))=false:=decide_eq_false hik
       have HDD:Hid (dq=d2):=Lib.hid (by rw [← HD2.out,← HD1.out,if_neg (fun h=>hik h.1),if_neg (fun h=>hik h.1)])
       have HRR:Hid (DelR wo qx W0.heap.size d2 ic ip A2 nx c2 x.cargos W5):=Lib.hid (by rw [← HDD.out];exact HR5.out.1)
       clear hik
       go_wp2_with fail
       go_roundw
       case rel=>exact ⟨q+1,by omega,by go_num,Lib.hid (by rw [HNEXT.out];exact HRR.out)⟩
       case measure=>simp [intOf];omega
      case pos =>
      have hik2:decide (i<(k:Int))=true:=decide_eq_true hik
      have HIK:=Lib.hid hik
      have x1':W5.cell? ⟨qx,1,none⟩=some (.int .i64 (ic:Int)):=HR5.out.1.2.1.cell 1
      have y1':W5.cell? ⟨yb,1,none⟩=some (.int .i64 yc):=HR5.out.2.cell 1
      clear hik
      go_upto_if 48 with (fail)
      clear hW5 hyb e0 e1 e2 e3 x1' y1'
      obtain ⟨p0,p1,cb,co,pb,po,hcA,hpA,p3,p4⟩:=HBK.out W5 HR5.out.1.1
      have x0:W5.cell? ⟨qx,0,none⟩=some (.int .i64 dq):=HR5.out.1.2.1.cell 0
      have fx:W5.frozen? ⟨qx,0,none⟩=false:=HR5.out.1.2.1.free 0
      have x1:W5.cell? ⟨qx,1,none⟩=some (.int .i64 (ic:Int)):=HR5.out.1.2.1.cell 1
      have y0:W5.cell? ⟨yb,0,none⟩=some (.int .i64 yd):=HR5.out.2.cell 0
      rw [hcA] at p0
      clear hcA hpA p1 p4
      go_cut [49] (fun _ w'=>DelR2 wo qx W0.heap.size yb (cellX yd yc yp (P q) ny (Q q)) d1 ic ip A2 nx c2 x.cargos w')
      case first =>
       by_cases hce:yc=(ic:Int)
       ·have hce1:(yc == (ic:Int))=true:=by rw [beq_iff_eq];exact hce
        have hws:IntKind.i64.wrap (yd+ag)=yd+ag:=IntWalk.i64_in _ (by omega)
        have HMAX:Hid (d1=max dq (yd+ag)):=Lib.hid (by rw [← HD1.out,if_pos ⟨HIK.out,hce⟩])
        clear hce
        go_wp2_with fail
        go_still_tail 14,(by kernel_rfl)
        go_wp2_with fail
        go_meet
        case rel=>rw [HMAX.out];exact ⟨(HR5.out.1.set _).drew,HR5.out.2.far (p:=⟨qx,0,none⟩) HYX.out _⟩
       ·have hce1:(yc == (ic:Int))=false:=by rw [beq_eq_false_iff_ne];exact hce
        have HDV:Hid (d1=dq):=Lib.hid (by rw [← HD1.out,if_neg (fun h=>hce h.2)])
        clear hce
        go_wp2_with fail
        go_meet
        case rel=>rw [HDV.out];exact HR5.out
      case rest =>
       have HR6:=Lib.hid hcut
       clear hcut p0 p3 x0 fx x1 y0
       have x2':wc.cell? ⟨qx,2,none⟩=some (.int .i64 (ip:Int)):=HR6.out.1.2.1.cell 2
       have y2':wc.cell? ⟨yb,2,none⟩=some (.int .i64 yp):=HR6.out.2.cell 2
       go_upto_if 72 with (fail)
       clear x2' y2'
       obtain ⟨p0,p1,cb2,co2,pb2,po2,hcA,hpA,p3,p4⟩:=HBK.out wc HR6.out.1.1
       have x0:wc.cell? ⟨qx,0,none⟩=some (.int .i64 d1):=HR6.out.1.2.1.cell 0
       have fx:wc.frozen? ⟨qx,0,none⟩=false:=HR6.out.1.2.1.free 0
       have x2:wc.cell? ⟨qx,2,none⟩=some (.int .i64 (ip:Int)):=HR6.out.1.2.1.cell 2
       have y0:wc.cell? ⟨yb,0,none⟩=some (.int .i64 yd):=HR6.out.2.cell 0
       rw [hpA] at p1
       clear hcA hpA p0 p3
       obtain ⟨W7,hW7⟩:∃ W,W=wc:=⟨_,rfl⟩
       have HR7:Hid (DelR2 wo qx W0.heap.size yb (cellX yd yc yp (P q) ny (Q q)) d1 ic ip A2 nx c2 x.cargos W7):=Lib.hid (by rw [hW7];exact HR6.out)
       rw [← hW7] at p1 p4 x0 fx x2 y0 ⊢
       clear hW7
       by_cases hce:yp=(ip:Int)
       ·have hce1:(yp == (ip:Int))=true:=by rw [beq_iff_eq];exact hce
        have hws:IntKind.i64.wrap (yd+cn)=yd+cn:=IntWalk.i64_in _ (by omega)
        have HMAX:Hid (d2=max d1 (yd+cn)):=Lib.hid (by rw [← HD2.out,if_pos ⟨HIK.out,hce⟩])
        clear hce
        go_wp2_with fail
        go_still_tail 14,(by kernel_rfl)
        go_wp2_with fail
        go_roundw
        case rel=>exact ⟨q+1,by omega,by go_num,Lib.hid (by rw [HNEXT.out,HMAX.out];exact (HR7.out.1.set _).drew)⟩
        case measure=>simp [intOf];omega
       ·have hce1:(yp == (ip:Int))=false:=by rw [beq_eq_false_iff_ne];exact hce
        have HDV:Hid (d2=d1):=Lib.hid (by rw [← HD2.out,if_neg (fun h=>hce h.2)])
        clear hce
        go_wp2_with fail
        go_roundw
        case rel=>exact ⟨q+1,by omega,by go_num,Lib.hid (by rw [HNEXT.out,HDV.out];exact HR7.out.1)⟩
        case measure=>simp [intOf];omega
     ·obtain rfl:q=k:=by omega
      have z0:wr.cell? ⟨qx,0,none⟩=some (.int .i64 dq):=hin.out.2.1.cell 0
      have z1:wr.cell? ⟨qx,1,none⟩=some (.int .i64 (ic:Int)):=hin.out.2.1.cell 1
      have z2:wr.cell? ⟨qx,2,none⟩=some (.int .i64 (ip:Int)):=hin.out.2.1.cell 2
      have z3:wr.cell? ⟨qx,3,none⟩=some (.slice A2 nx c2):=hin.out.2.1.cell 3
      have HBI:Hid (Below wo.heap.size wo wr):=Lib.hid (by rw [HQX.out];exact hin.out.1)
      have HOW:=Lib.hid (HO.out.later HBI.out)
      have hown:=HOW.out.row
      rw [delayK_len] at hown
      have HINT:=Lib.hid hin.out.2.2
      have HBW:Hid (Below W0.heap.size W0 wr):=Lib.hid (HB.out.trans (HBI.out.mono HB.out.size))
      have HQL:Hid (W0.heap.size≤wr.heap.size):=Lib.hid HBW.out.size
      clear hin
      go_wp2_with (at_builtin;refine wpList_append_own _ rfl _ _ 27 rfl W0.heap.size 52 i0 (.agg #[.int .i64 0,.int .i64 0,.int .i64 0,.slice none 0 0]) 4 48 Tryz.underlying27 HIL.out HZ0.out HZ1.out HZ2.out rfl (by decide) _ _ _ rfl (hown.alloc _) ⟨wr.heap.size,0,none⟩ 1 1 [.int .i64 dq,.int .i64 (ic:Int),.int .i64 (ip:Int),.slice A2 nx c2] rfl rfl ?qc2 ?qc3 ?qc4 ?qc5 ?qc6 ?_)
      case qc2=>intro j u hj;match j,hj with | 0,hj=>simp at hj;subst hj;simp [Addr.add] | 1,hj=>simp at hj;subst hj;simp [Addr.add] | 2,hj=>simp at hj;subst hj;simp [Addr.add] | 3,hj=>simp at hj;subst hj;simp [Addr.add]
      case qc3=>intro u hu;simp at hu;rcases hu with rfl | rfl | rfl | rfl <;> rfl
      case qc4=>unfold maxLen;omega
      case qc5=>omega
      case qc6=>have:=HQL.out;simp;omega
      intro v' w2 hown' hgrow _
      have HM:=Lib.hid (HMR.out q)
      have HALL:Hid (∃ P' Q',OwnL w2 W0.heap.size v' (delayK c l i days (q+1)) P' Q'):=Lib.hid (by
       rw [midX_end]
       have hm:=HM.out
       have hpush:=OwnL.push (x:=midX c l i days q q) (A:=A2) (cl:=c2) (v':=v') (HOW.out.later ((Below.refl _ wr).alloc (Nat.le_refl _) (.cells (cellX dq ic ip A2 nx c2) 52))) (by rw [hm.2.2];exact HINT.out.later ((Below.refl _ wr).alloc (Nat.le_refl _) _)) hgrow (by
        rw [delayK_len,HDQ.out,hm.1,hm.2.1,hm.2.2,HNX.out];exact hown')
       exact ⟨_,_,hpush⟩)
      have HB2':Hid (Below W0.heap.size W0 w2):=Lib.hid (by
       have h1:=HBW.out.alloc HBW.out.size (.cells (cellX dq ic ip A2 nx c2) 52)
       exact h1.grown hgrow h1.size fun g hg=>(hown.lt g hg).1)
      clear hgrow hown' hown z0 z1 z2 z3
      obtain ⟨P',Q',hnew⟩:=HALL.out
      have HNEW:=Lib.hid hnew
      clear hnew
      go_wp2_with fail
      go_roundw
      case rel=>exact ⟨q+1,P',Q',by omega,by go_num,Lib.hid ⟨HB2'.out,HNEW.out⟩⟩
      case measure=>simp [intOf];omega
  ·obtain rfl:k=nl:=by omega
   have HEND:Hid (Below qb w wo):=Lib.hid (HB0.out.trans (HB.out.mono HSZ.out))
   rcases Nat.eq_zero_or_pos k with hz | hz
   ·subst hz
    have HN0:=Lib.hid (sortF_none wo A9 c9)
    have HDE:Hid (delayedB c l i days=[]):=Lib.hid (by unfold delayedB;rw [HNL.out];rfl)
    go_wp2_with fail
    refine HN0.out.mono ?_
    rintro e w2 ⟨rfl,rfl⟩
    go_wp2_with fail
    exact HFIN.out A9 c9 _ (Nat.zero_le _) (by rw [HDE.out];exact PlanO.nil _ _ _) HEND.out
   ·obtain ⟨g,cg,cur,hsl,hcap,hro⟩:=HO.out.rows (by rw [delayK_len];exact hz)
    rw [delayK_len] at hsl hcap
    injection hsl with hA hnn hcc
    subst hA hcc
    have hsf:=sortF_any wo W0.heap.size g c9 cur (delayK c l i days k) P Q hro (by rw [delayK_len];omega)
    rw [delayK_len] at hsf
    have HSF:=Lib.hid hsf
    have HCAP:=Lib.hid hcap
    have HLO:=Lib.hid hro.lo
    have HDE:Hid (delayedB c l i days=sortL (delayK c l i days k)):=Lib.hid (by unfold delayedB;rw [HNL.out])
    have HLEN:Hid ((sortL (delayK c l i days k)).length=k):=Lib.hid (by rw [(sortL_perm _).length_eq,delayK_len])
    have HKN:=Lib.hid hn
    clear hsf hcap hro hnn
    go_wp2_with fail
    refine HSF.out.mono ?_
    rintro e w2 ⟨rfl,⟨cur',P',Q',hr2,_⟩,hg2⟩
    have HR2:=Lib.hid hr2
    have HG2:Hid (Below qb w w2):=Lib.hid (HEND.out.grown hg2 (by have:=HSZ.out;have:=HB.out.size;omega) fun z hz2=>by
     injection hz2 with hz2
     subst hz2
     have:=HLO.out;have:=HSZ.out;omega)
    clear hr2 hg2
    go_wp2_with fail
    refine HFIN.out _ c9 _ HCAP.out ⟨by rw [HDE.out,HLEN.out];have:=HKN.out;omega,fun _=>⟨g,cur',P',Q',rfl,?_⟩⟩ HG2.out
    rw [HDE.out]
    have hr:=HR2.out
    exact ⟨by have:=hr.lo;have:=HSZ.out;omega,hr.bk,hr.row,fun j hj=>(hr.ints j hj).mono HSZ.out⟩
end Go.Proofs.YtcnjenlojnognaaGreat
/- What is proved: contracts of campaign.Delay and Slack. Conditions: the campaign and the plan lie in memory; the plan is short. -/
namespace Go.Proofs.YtcnjenlojnognaaGreat
open Go.RowKit

theorem PlanO.mono {w:World} {B B':Nat} {A:Option Addr} {l:List LaunchD} (h:PlanO w B A l) (hb:B'≤B):PlanO w B' A l :=
 ⟨h.short,fun h0=>by
  obtain ⟨g,cur,P,Q,e,hr⟩:=h.rows h0
  exact ⟨g,cur,P,Q,e,by have:=hr.lo;omega,hr.bk,hr.row,fun i hi=>(hr.ints i hi).mono hb⟩⟩
theorem delayedB_len (c:CampD) (l:List LaunchD) (i days:Int):(delayedB c l i days).length=l.length:=by unfold delayedB;rw [(sortL_perm _).length_eq,delayK_len]
def DelayPost (c:CampD) (l:List LaunchD) (i days:Int) (w:World) (e:Ending) (w':World):Prop :=
 ∃ A c',e=.returned (.tuple #[.slice A (delayB c l i days).1.length c',.int .i64 (delayB c l i days).2])∧(delayB c l i days).1.length≤c'∧PlanO w' w.heap.size A (delayB c l i days).1∧Below w.heap.size w w'
set_option maxRecDepth 100000 in
set_option maxHeartbeats 8000000 in
theorem delay_any (w:World) (V:CV) (c:CampD) (h:CampAt w w.heap.size V c) (l:List LaunchD) (AL:Option Addr) (cL:Nat) (hp:PlanAt w w.heap.size AL l) (hcap:l.length≤cL) (hl20:l.length≤2000) (i days:Int) :
  Calls Tryz.prog 32 #[.agg (campA V c),.slice AL l.length cL,.int .i64 i,.int .i64 days] w (DelayPost c l i days w):=by
 obtain ⟨qb,hqb⟩:∃ qb,w.heap.size=qb:=⟨_,rfl⟩
 obtain ⟨W0,hW0⟩:∃ W0,w.alloc (.cells (campA V c) 26)=W0:=⟨_,rfl⟩
 have hb0:Below w.heap.size w W0:=by rw [← hW0];exact (Below.refl _ w).alloc (Nat.le_refl _) _
 have HB0:Hid (Below qb w W0):=Lib.hid (by rw [← hqb];exact hb0)
 have HKC:Hid (Bk W0 qb 26 (campA V c)):=Lib.hid (by rw [← hW0,← hqb];exact Bk.new _ _ _)
 have HSZ:Hid (qb≤W0.heap.size):=Lib.hid (by have:=HKC.out.lt;omega)
 have HCA:=Lib.hid (h.later hb0)
 have HPA:=Lib.hid (hp.later hb0)
 obtain ⟨nl,hnl⟩:∃ nl,l.length=nl:=⟨_,rfl⟩
 have HNL:=Lib.hid hnl
 have HCAP:=Lib.hid hcap
 obtain ⟨z,hz⟩:∃ z,meantB c l i=z:=⟨_,rfl⟩
 have HZ:=Lib.hid hz
 have HM:=Lib.hid (meant_val W0 V c HCA.out l AL cL HPA.out hcap (by omega) i z hz nl hnl)
 have HLC:Hid (∀ w1,Below W0.heap.size W0 w1→∀ j u,(campA V c)[j]?=some u→w1.cell? ⟨qb,0+j,none⟩=some u):=Lib.hid fun w1 hb j u hj=>by rw [Nat.zero_add,(HKC.out.below hb HKC.out.lt).cell];exact hj
 have HLC0:=Lib.hid (HLC.out W0 (Below.refl _ _))
 obtain ⟨bi,hbi⟩:∃ b,inB days 0 10000=b:=⟨_,rfl⟩
 have HBI:=Lib.hid hbi
 have HI:Hid (∀ w1,Calls Tryz.prog 46 #[.int .i64 days,.int .i64 0,.int .i64 10000] w1 fun e w'=>e=.returned (.bool bi)∧Below w1.heap.size w1 w'):=Lib.hid fun w1=>by rw [← hbi];exact within_below _ _ _ _
 obtain ⟨PQ,hPQ⟩:∃ Q,DelayPost c l i days w=Q:=⟨_,rfl⟩
 have HFIN:Hid (∀ (A:Option Addr) (n c':Nat) (er:Int) (L:List LaunchD) (w':World),delayB c l i days=(L,er)→L.length=n→n≤c'→PlanO w' qb A L→Below qb w w'→PQ (.returned (.tuple #[.slice A n c',.int .i64 er])) w'):=Lib.hid fun A n c' er L w' h1 h2 h3 h4 h5=>by
  subst h2;rw [← hPQ];unfold DelayPost;rw [h1,hqb];exact ⟨A,c',rfl,h3,h4,h5⟩
 rw [hnl] at hl20 ⊢
 rw [hPQ]
 clear h hp hb0 hcap hnl hPQ hz hbi
 simp only [campA] at hW0 ⊢
 go_enter Tryz.func32,Tryz.ntmps32
 go_upto_region 1 with (fail)
 clear hW0 hqb
 go_wp2_with (first | (refine wpLoadAt rfl 26 _ rfl qb 0 rfl (campA V c) _ HLC0.out und_camp rfl (info_campA V c) ?_))
 refine HM.out.mono ?_
 rintro e W1 ⟨rfl,hb1⟩
 have HB1:=Lib.hid hb1
 clear hb1
 by_cases he:z=0
 case neg =>
  have hz1:(z == 0)=false:=by rw [beq_eq_false_iff_ne];exact he
  have HRB:Hid (delayB c l i days=([],z)):=Lib.hid (by unfold delayB;rw [HZ.out,if_pos he])
  clear he
  go_wp2_with fail
  exact HFIN.out none 0 0 _ [] _ HRB.out rfl (Nat.le_refl _) (PlanO.nil _ _ _) (HB0.out.trans (HB1.out.mono HSZ.out))
 case pos =>
 subst he
 obtain ⟨hv,_,_⟩:=meant_zero HZ.out
 obtain ⟨hcc,hpl⟩:=valid_iff.1 hv
 have HCC:=Lib.hid hcc
 have HPL:=Lib.hid hpl
 clear hv hcc hpl
 go_wp2_with fail
 refine (HI.out _).mono ?_
 rintro e W2 ⟨rfl,hb2⟩
 have HB2:=Lib.hid (HB1.out.trans (hb2.mono HB1.out.size))
 clear hb2
 cases bi with
 | false =>
  have HRB:Hid (delayB c l i days=([],4)):=Lib.hid (by unfold delayB;rw [HZ.out,if_neg (by decide),if_pos HBI.out])
  go_wp2_with fail
  exact HFIN.out none 0 0 _ [] _ HRB.out rfl (Nat.le_refl _) (PlanO.nil _ _ _) (HB0.out.trans (HB2.out.mono HSZ.out))
 | true =>
 have HLC2:=Lib.hid (HLC.out W2 HB2.out)
 have hdy:=inB_iff.1 HBI.out
 have hdel:=delayed_any W2 V c (HCA.out.later HB2.out) HCC.out l AL cL (HPA.out.later HB2.out) HPL.out.poss (by rw [HNL.out];exact hl20) i days ⟨hdy.1,by omega⟩
 unfold DelPost at hdel
 rw [HNL.out] at hdel
 have HDEL:=Lib.hid hdel
 clear hdel hdy
 go_wp2_with (first | (refine wpLoadAt rfl 26 _ rfl qb 0 rfl (campA V c) _ HLC2.out und_camp rfl (info_campA V c) ?_))
 refine HDEL.out.mono ?_
 rintro e W3 ⟨A3,c3,rfl,hc3,hp3,hb3⟩
 have HB3:=Lib.hid (HB2.out.trans (hb3.mono HB2.out.size))
 have HLC3:=Lib.hid (HLC.out W3 HB3.out)
 obtain ⟨bv,hbv⟩:∃ b,validB c (delayedB c l i days)=b:=⟨_,rfl⟩
 have HBV:=Lib.hid hbv
 have HV:=Lib.hid (valid_val W3 V c (HCA.out.later HB3.out) (delayedB c l i days) A3 c3 hp3.at (by rw [delayedB_len,HNL.out];exact hc3) bv hbv nl (by rw [delayedB_len,HNL.out]))
 have HP3:=Lib.hid (hp3.mono (Nat.le_trans HSZ.out HB2.out.size))
 have HC3:=Lib.hid hc3
 clear hb3 hc3 hp3 hbv
 go_wp2_with (first | (refine wpLoadAt rfl 26 _ rfl qb 0 rfl (campA V c) _ HLC3.out und_camp rfl (info_campA V c) ?_))
 refine HV.out.mono ?_
 rintro e W4 ⟨rfl,hb4⟩
 have HB4:=Lib.hid (HB3.out.trans (hb4.mono HB3.out.size))
 have HP4:=Lib.hid (HP3.out.later hb4)
 clear hb4
 cases bv with
 | false =>
  have HRB:Hid (delayB c l i days=([],7)):=Lib.hid (by unfold delayB;rw [HZ.out,if_neg (by decide),if_neg (by rw [HBI.out];decide),if_pos HBV.out])
  go_wp2_with fail
  exact HFIN.out none 0 0 _ [] _ HRB.out rfl (Nat.le_refl _) (PlanO.nil _ _ _) (HB0.out.trans (HB4.out.mono HSZ.out))
 | true =>
  have HRB:Hid (delayB c l i days=(delayedB c l i days,0)):=Lib.hid (by unfold delayB;rw [HZ.out,if_neg (by decide),if_neg (by rw [HBI.out];decide),if_neg (by rw [HBV.out];decide)])
  go_wp2_with fail
  exact HFIN.out A3 nl c3 _ (delayedB c l i days) _ HRB.out (by rw [delayedB_len,HNL.out]) HC3.out HP4.out (HB0.out.trans (HB4.out.mono HSZ.out))
theorem halves_step (p:Int→Bool) (low high:Int) (h0:0≤low) (h1:high≤10001) (h:1<high - low):halvesB p 10001 low high=if p ((low+high) / 2) then halvesB p 10001 ((low+high) / 2) high else halvesB p 10001 low ((low+high) / 2):=by
 show (if 1<high - low then _ else low)=_
 rw [if_pos h,halvesB_more p 10000 ((low+high) / 2) high (by omega) 10001 (by omega),halvesB_more p 10000 low ((low+high) / 2) (by omega) 10001 (by omega)]
theorem halves_stop (p:Int→Bool) (low high:Int) (h:¬ 1<high - low):halvesB p 10001 low high=low:=by
 show (if 1<high - low then _ else low)=_
 rw [if_neg h]
def SlackPost (c:CampD) (l:List LaunchD) (i:Int) (w:World) (e:Ending) (w':World):Prop:=e=.returned (.tuple #[.int .i64 (slackB c l i).1,.int .i64 (slackB c l i).2])∧Below w.heap.size w w'
set_option maxRecDepth 100000 in
set_option maxHeartbeats 8000000 in
theorem slack_any (w:World) (V:CV) (c:CampD) (h:CampAt w w.heap.size V c) (l:List LaunchD) (AL:Option Addr) (cL:Nat) (hp:PlanAt w w.heap.size AL l) (hcap:l.length≤cL) (hl20:l.length≤2000) (i:Int) :
  Calls Tryz.prog 34 #[.agg (campA V c),.slice AL l.length cL,.int .i64 i] w (SlackPost c l i w):=by
 obtain ⟨qb,hqb⟩:∃ qb,w.heap.size=qb:=⟨_,rfl⟩
 obtain ⟨W0,hW0⟩:∃ W0,w.alloc (.cells (campA V c) 26)=W0:=⟨_,rfl⟩
 have hb0:Below w.heap.size w W0:=by rw [← hW0];exact (Below.refl _ w).alloc (Nat.le_refl _) _
 have HB0:Hid (Below qb w W0):=Lib.hid (by rw [← hqb];exact hb0)
 have HKC:Hid (Bk W0 qb 26 (campA V c)):=Lib.hid (by rw [← hW0,← hqb];exact Bk.new _ _ _)
 have HSZ:Hid (qb≤W0.heap.size):=Lib.hid (by have:=HKC.out.lt;omega)
 have HCA:=Lib.hid (h.later hb0)
 have HPA:=Lib.hid (hp.later hb0)
 obtain ⟨nl,hnl⟩:∃ nl,l.length=nl:=⟨_,rfl⟩
 have HNL:=Lib.hid hnl
 obtain ⟨z,hz⟩:∃ z,meantB c l i=z:=⟨_,rfl⟩
 have HZ:=Lib.hid hz
 have HM:=Lib.hid (meant_val W0 V c HCA.out l AL cL HPA.out hcap (by omega) i z hz nl hnl)
 have HLC:Hid (∀ w1,Below W0.heap.size W0 w1→∀ j u,(campA V c)[j]?=some u→w1.cell? ⟨qb,0+j,none⟩=some u):=Lib.hid fun w1 hb j u hj=>by rw [Nat.zero_add,(HKC.out.below hb HKC.out.lt).cell];exact hj
 have HLC0:=Lib.hid (HLC.out W0 (Below.refl _ _))
 obtain ⟨PQ,hPQ⟩:∃ Q,SlackPost c l i w=Q:=⟨_,rfl⟩
 have HFIN:Hid (∀ (a b:Int) (w':World),slackB c l i=(a,b)→Below qb w w'→PQ (.returned (.tuple #[.int .i64 a,.int .i64 b])) w'):=Lib.hid fun a b w' h1 h2=>by
  rw [← hPQ];unfold SlackPost;rw [h1,hqb];exact ⟨rfl,h2⟩
 rw [hnl] at hl20 ⊢
 rw [hPQ]
 clear h hp hb0 hcap hnl hPQ hz
 simp only [campA] at hW0 ⊢
 go_enter Tryz.func34,Tryz.ntmps34
 go_upto_region 1 with (fail)
 clear hW0 hqb
 go_wp2_with (first | (refine wpLoadAt rfl 26 _ rfl qb 0 rfl (campA V c) _ HLC0.out und_camp rfl (info_campA V c) ?_))
 refine HM.out.mono ?_
 rintro e W1 ⟨rfl,hb1⟩
 have HB1:=Lib.hid hb1
 clear hb1
 by_cases he:z=0
 case neg =>
  have hz1:(z == 0)=false:=by rw [beq_eq_false_iff_ne];exact he
  have HRB:Hid (slackB c l i=(0,z)):=Lib.hid (by unfold slackB;rw [HZ.out,if_pos he])
  clear he
  go_wp2_with fail
  exact HFIN.out _ _ _ HRB.out (HB0.out.trans (HB1.out.mono HSZ.out))
 case pos =>
 subst he
 obtain ⟨hv,_,_⟩:=meant_zero HZ.out
 obtain ⟨hcc,hpl⟩:=valid_iff.1 hv
 have HCC:=Lib.hid hcc
 have HPL:=Lib.hid hpl
 obtain ⟨pf,hpf⟩:∃ p:Int→Bool,p=fun d=>validB c (delayedB c l i d):=⟨_,rfl⟩
 have HPF:Hid (∀ d,validB c (delayedB c l i d)=pf d):=Lib.hid fun d=>by rw [hpf]
 have HSL:Hid (slackB c l i=(halvesB pf 10001 0 10001,0)):=Lib.hid (by unfold slackB;rw [HZ.out,if_neg (by decide),hpf])
 clear hv hcc hpl hpf
 go_wp2_with fail
 go_loopw [9,10] (fun lv hv wr=>∃ lo hi:Int,lv=.int .i64 lo∧hv=.int .i64 hi∧0≤lo∧lo<hi∧hi≤10001∧Hid (Below W0.heap.size W0 wr∧halvesB pf 10001 lo hi=halvesB pf 10001 0 10001)) (fun lv hv _=>(intOf hv - intOf lv).toNat)
 case atStart=>exact ⟨0,10001,rfl,rfl,by omega,by omega,by omega,Lib.hid ⟨HB1.out,rfl⟩⟩
 case round =>
  obtain ⟨lo,hi,rfl,rfl,hlo,hlh,hhi,hs⟩:=hrel
  have HB:=Lib.hid hs.out.1
  have HH:=Lib.hid hs.out.2
  clear hs
  by_cases hgo:1<hi - lo
  ·have hgo1:decide (1<hi - lo)=true:=decide_eq_true hgo
   have hws:IntKind.i64.wrap (hi - lo)=hi - lo:=IntWalk.i64_in _ (by omega)
   have hws2:IntKind.i64.wrap (lo+hi)=lo+hi:=IntWalk.i64_in _ (by omega)
   obtain ⟨mid,hmid⟩:∃ m,(lo+hi) / 2=m:=⟨_,rfl⟩
   have hmt:(lo+hi).tdiv 2=mid:=by rw [Int.tdiv_eq_ediv_of_nonneg (by omega)];exact hmid
   have hm1:lo<mid:=by omega
   have hm2:mid<hi:=by omega
   have HSTEP:Hid (halvesB pf 10001 lo hi=if pf mid then halvesB pf 10001 mid hi else halvesB pf 10001 lo mid):=Lib.hid (by rw [halves_step pf lo hi hlo hhi hgo,hmid])
   have hm3:0≤mid:=by omega
   have hm4:mid≤10001:=by omega
   clear hmid hgo
   obtain ⟨D,hD⟩:∃ D,delayedB c l i mid=D:=⟨_,rfl⟩
   have HDN:Hid (D.length=nl):=Lib.hid (by rw [← hD,delayedB_len,HNL.out])
   obtain ⟨bv,hbv⟩:∃ b,pf mid=b:=⟨_,rfl⟩
   have HDV:Hid (validB c D=bv):=Lib.hid (by rw [← hD,HPF.out,hbv])
   have HDEL:Hid (∀ w1,Below W0.heap.size W0 w1→Calls Tryz.prog 75 #[.agg (campA V c),.slice AL nl cL,.int .i64 i,.int .i64 mid] w1 fun e w'=>∃ A c',e=.returned (.slice A nl c')∧nl≤c'∧PlanAt w' w'.heap.size A D∧Below w1.heap.size w1 w'):=Lib.hid fun w1 hb=>by
    have hdel:=delayed_any w1 V c (HCA.out.later hb) HCC.out l AL cL (HPA.out.later hb) HPL.out.poss (by rw [HNL.out];exact hl20) i mid ⟨hm3,hm4⟩
    rw [HNL.out] at hdel
    refine hdel.mono ?_
    rintro e w' ⟨A,c',he,hc',hp',hb'⟩
    rw [HNL.out] at he hc'
    rw [hD] at hp'
    exact ⟨A,c',he,hc',hp'.at,hb'⟩
   have HSTEP2:Hid (halvesB pf 10001 lo hi=if bv then halvesB pf 10001 mid hi else halvesB pf 10001 lo mid):=Lib.hid (by rw [HSTEP.out,hbv])
   have HLCW:Hid (∀ w1,Below wr.heap.size wr w1→Below W0.heap.size W0 w1):=Lib.hid fun w1 hb=>HB.out.trans (hb.mono HB.out.size)
   clear hD hbv hm3 hm4
   go_wp2_with fail
   refine wp_region_steps (by kernel_rfl) (by kernel_rfl) (fun w1=>Below wr.heap.size wr w1) (fun _ w1 w2=>Below w1.heap.size w1 w2)
    (fun ix u d w1=>(match ix with
     | 0=>u=.agg (campA V c)
     | 1=>u=.agg (campA V c)
     | 2=>u=.slice AL nl cL
     | 3=>u=.int .i64 i
     | 4=>u=.int .i64 mid
     | 5=>True
     | _=>u=.bool bv)∧(ix=5→∃ A c',u=.slice A nl c'∧nl≤c'∧PlanAt w1 w1.heap.size A D)) (Below.refl _ _).drew (fun i j _ _ u d w1 w2 h _ he=>⟨h.1,fun e=>by obtain ⟨A,c',a1,a2,a3⟩:=h.2 e;exact ⟨A,c',a1,a2,a3.later he⟩⟩) ?_ ?_
   ·refine ⟨?_,?_,?_,?_,?_,?_,?_,trivial⟩
    ·intro a w1 vs K HJ HK HD HN kk
     have e3:=HK 3 (by decide)
     exact wpo_loadS 26 (.tmp 3) rfl qb 0 (by simpa [Act.eval] using e3) (campA V c) _ (HLC.out w1 (HLCW.out w1 HJ)) und_camp rfl (info_campA V c) (kk _ _ (by simp) HJ (Below.refl _ _) ⟨rfl,fun h=>absurd h (by decide)⟩)
    ·intro a w1 vs K HJ HK HD HN kk
     have e3:=HK 3 (by decide)
     exact wpo_loadS 26 (.tmp 3) rfl qb 0 (by simpa [Act.eval] using e3) (campA V c) _ (HLC.out w1 (HLCW.out w1 HJ)) und_camp rfl (info_campA V c) (kk _ _ (by simp) HJ (Below.refl _ _) ⟨rfl,fun h=>absurd h (by decide)⟩)
    ·intro a w1 vs K HJ HK HD HN kk
     have e1:=HK 1 (by decide)
     go_simp;exact kk _ _ (by simp) HJ (Below.refl _ _) ⟨rfl,fun h=>absurd h (by decide)⟩
    ·intro a w1 vs K HJ HK HD HN kk
     have e2:=HK 2 (by decide)
     go_simp;exact kk _ _ (by simp) HJ (Below.refl _ _) ⟨rfl,fun h=>absurd h (by decide)⟩
    ·intro a w1 vs K HJ HK HD HN kk
     have e11:=HK 11 (by decide)
     go_simp;exact kk _ _ (by simp) HJ (Below.refl _ _) ⟨rfl,fun h=>absurd h (by decide)⟩
    ·intro a w1 vs K HJ HK HD HN kk
     have e28:=(HD 1 _ 28 rfl rfl rfl).1.trans (HD 1 _ 28 rfl rfl rfl).2.1
     have e29:=(HD 2 _ 29 rfl rfl rfl).1.trans (HD 2 _ 29 rfl rfl rfl).2.1
     have e30:=(HD 3 _ 30 rfl rfl rfl).1.trans (HD 3 _ 30 rfl rfl rfl).2.1
     have e31:=(HD 4 _ 31 rfl rfl rfl).1.trans (HD 4 _ 31 rfl rfl rfl).2.1
     exact wpo_call 75 _ _ rfl #[.agg (campA V c),.slice AL nl cL,.int .i64 i,.int .i64 mid] (by simp [Act.eval,e28,e29,e30,e31]) (fun args w=>by kernel_rfl)
      ((HDEL.out w1 (HLCW.out w1 HJ)).mono fun e w' h=>by
       obtain ⟨A,c',he,hc',hp',hb⟩:=h
       exact ⟨_,he,kk _ _ (by simp) (HJ.trans (hb.mono HJ.size)) hb ⟨trivial,fun _=>⟨A,c',rfl,hc',hp'⟩⟩⟩)
    ·intro a w1 vs K HJ HK HD HN kk
     have e27:=(HD 0 _ 27 rfl rfl rfl).1.trans (HD 0 _ 27 rfl rfl rfl).2.1
     obtain ⟨q5,r5⟩:=HD 5 _ 32 rfl rfl rfl
     obtain ⟨A,c',hu,hc',hp'⟩:=r5.2 rfl
     have e32:=q5.trans hu
     exact wpo_call 56 _ _ rfl #[.agg (campA V c),.slice A nl c'] (by simp [Act.eval,e27,e32]) (fun args w=>by kernel_rfl)
      ((valid_val w1 V c (HCA.out.later (HLCW.out w1 HJ)) D A c' hp' (by rw [HDN.out];exact hc') bv HDV.out nl HDN.out).mono fun e w' ⟨he,hb⟩=>⟨_,he,kk _ _ (by simp) (HJ.trans (hb.mono HJ.size)) hb ⟨rfl,fun h=>absurd h (by decide)⟩⟩)
   ·intro vs W3 hw6 hrr
    have e6:vs 6=.bool bv:=(hrr 6 _ rfl).1
    have HB3:Hid (Below wr.heap.size wr W3):=Lib.hid hw6
    clear hrr hw6
    simp only [putAll,Act.put,List.setIfInBounds_toArray,List.set_cons_zero,List.set_cons_succ]
    rw [e6]
    cases bv with
    | true =>
     go_wp2_with fail
     go_roundw
     case rel=>exact ⟨mid,hi,rfl,rfl,by omega,hm2,hhi,Lib.hid ⟨HLCW.out _ HB3.out,by rw [← HH.out,HSTEP2.out];rfl⟩⟩
     case measure=>simp [intOf];omega
    | false =>
     go_wp2_with fail
     go_roundw
     case rel=>exact ⟨lo,mid,rfl,rfl,hlo,hm1,by omega,Lib.hid ⟨HLCW.out _ HB3.out,by rw [← HH.out,HSTEP2.out];rfl⟩⟩
     case measure=>simp [intOf];omega
  ·have hgo1:decide (1<hi - lo)=false:=decide_eq_false hgo
   have hws:IntKind.i64.wrap (hi - lo)=hi - lo:=IntWalk.i64_in _ (by omega)
   have HE:Hid (slackB c l i=(lo,0)):=Lib.hid (by rw [HSL.out,← HH.out,halves_stop pf lo hi hgo])
   clear hgo
   go_wp2_with fail
   exact HFIN.out _ _ _ HE.out (HB0.out.trans (HB.out.mono HSZ.out))
end Go.Proofs.YtcnjenlojnognaaGreat
/- What is proved: contracts of set.list, set.size. Conditions: the set has at most six cargos. -/
namespace Go.Proofs.YtcnjenlojnognaaGreat
open Go.RowKit

theorem bit_all:((List.range 64).all fun s=>(List.range 6).all fun k=>decide (bits .and .u64 ((s:Int) / 2 ^ k) 1=if s.testBit k then 1 else 0))=true:=by kernel_rfl
theorem bit_one {s k:Nat} (hs:s<64) (hk:k<6):bits .and .u64 ((s:Int) / 2 ^ k) 1=if s.testBit k then 1 else 0:=by
 have h:=List.all_eq_true.1 bit_all s (List.mem_range.2 hs)
 have h2:=List.all_eq_true.1 h k (List.mem_range.2 hk)
 exact of_decide_eq_true h2
theorem len_all:((List.range 64).all fun s=>decide (Lib.bitLen s≤6) && decide (((List.range (Lib.bitLen s)).filter fun i=>s.testBit i)=(List.range 6).filter fun i=>s.testBit i))=true:=by kernel_rfl
theorem len_bits {s:Nat} (hs:s<64):Lib.bitLen s≤6∧((List.range (Lib.bitLen s)).filter fun i=>s.testBit i)=(List.range 6).filter fun i=>s.testBit i:=by
 have h:=List.all_eq_true.1 len_all s (List.mem_range.2 hs)
 rw [Bool.and_eq_true,decide_eq_true_eq,decide_eq_true_eq] at h
 exact h
/-- The cargos of a set below k. -/
def bitsTo (s k:Nat):List Int:=((List.range k).filter fun i=>s.testBit i).map Int.ofNat
theorem bitsTo_succ (s k:Nat):bitsTo s (k+1)=if s.testBit k then bitsTo s k ++ [(k:Int)] else bitsTo s k:=by
 unfold bitsTo
 rw [List.range_succ,List.filter_append,List.map_append]
 cases h:s.testBit k with
 | true=>simp [h]
 | false=>simp [h]
theorem bitsTo_len (s k:Nat):(bitsTo s k).length≤k:=by
 unfold bitsTo
 rw [List.length_map]
 exact Nat.le_trans (List.length_filter_le _ _) (by rw [List.length_range];exact Nat.le_refl _)
def rowsI (l:List Int):List Value:=rowsL l.length 1 fun i _=>.int .i64 (numI l i)
theorem rowsI_snoc (l:List Int) (x:Int):rowsI (l ++ [x])=rowsI l ++ [.int .i64 x]:=by
 unfold rowsI
 rw [List.length_append,List.length_singleton,rowsL_succ _ _ (by omega)]
 congr 1
 ·refine rowsL_congr _ _ (by omega) fun i hi j _=>?_
  unfold numI
  rw [List.getD_eq_getElem?_getD,List.getElem?_append_left hi,← List.getD_eq_getElem?_getD]
 ·have:numI (l ++ [x]) l.length=x:=by unfold numI;simp [List.getD_eq_getElem?_getD]
  simp [this]
theorem IntsO.of_own {w:World} {B:Nat} {v:Value} {l:List Int} (hn:l.length≤4096) (h:w.ownsRow B 3 1 v l.length (rowsI l)):∃ A c,v=.slice A l.length c∧l.length≤c∧IntsO w B A l:=by
 obtain ⟨A,c,hv,hcl⟩:=Cl.of_own hn h
 refine ⟨A,c,hv,?_,hcl⟩
 rcases h.2 with ⟨e,h0⟩ | ⟨g,cap,cur,e,_,_,h1,_⟩
 ·omega
 ·rw [hv] at e;injection e with _ _ e;omega
def ListPost (l:List Int) (w:World) (e:Ending) (w':World):Prop:=∃ A c,e=.returned (.slice A l.length c)∧l.length≤c∧IntsO w' w.heap.size A l∧Below w.heap.size w w'
set_option maxRecDepth 100000 in
set_option maxHeartbeats 4000000 in
theorem list_any (s:Nat) (hs:s<64) (w:World):Calls Tryz.prog 70 #[.int .u64 (s:Int)] w (ListPost (bitsL s) w):=by
 obtain ⟨hl6,hbl⟩:=len_bits hs
 have HEQ:Hid (bitsTo s (Lib.bitLen s)=bitsL s):=Lib.hid (by unfold bitsTo bitsL;rw [hbl])
 have HL:=Lib.hid (Tryz.bits_Len (s:Int) w (by omega) (by omega))
 rw [Int.toNat_natCast] at HL
 obtain ⟨n,hn⟩:∃ n,Lib.bitLen s=n:=⟨_,rfl⟩
 rw [hn] at HL HEQ hl6
 have HB:=Lib.hid fun k (hk:k<6)=>bit_one hs hk
 obtain ⟨PQ,hPQ⟩:∃ Q,ListPost (bitsL s) w=Q:=⟨_,rfl⟩
 have HFIN:Hid (∀ v w',w'.ownsRow w.heap.size 3 1 v (bitsTo s n).length (rowsI (bitsTo s n))→Below w.heap.size w w'→PQ (.returned v) w'):=Lib.hid fun v w' h1 h2=>by
  rw [← hPQ,← HEQ.out]
  obtain ⟨A,c,rfl,hc,hi⟩:=IntsO.of_own (by have:=bitsTo_len s n;omega) h1
  exact ⟨A,c,rfl,hc,hi,h2⟩
 obtain ⟨i0,hi,hz0,hz1,hz2⟩:=info_parts infoC_Int
 rw [hPQ]
 clear hbl hn hPQ
 go_enter Tryz.func70,Tryz.ntmps70
 go_wp2_with fail
 refine HL.out.mono ?_
 rintro e w1 ⟨rfl,rfl⟩
 go_wp2_with fail
 go_loopw [3,7] (fun v iv wr=>∃ k:Nat,k≤n∧iv=.int .i64 k∧Hid (Below w1.heap.size w1 wr∧wr.ownsRow w1.heap.size 3 1 v (bitsTo s k).length (rowsI (bitsTo s k)))) (fun _ iv _=>n - (intOf iv).toNat)
 case atStart=>exact ⟨0,Nat.zero_le _,rfl,Lib.hid ⟨Below.refl _ _,World.ownsRow_nil _ _ _ _⟩⟩
 case round =>
  obtain ⟨k,hk,rfl,hs'⟩:=hrel
  have HBR:=Lib.hid hs'.out.1
  have HO:=Lib.hid hs'.out.2
  clear hs'
  by_cases hlt:k<n
  ·have hki:(k:Int)<(n:Int):=by omega
   have h0k:(0:Int)≤(k:Int):=by omega
   have hk64:(k:Int)≤64:=by omega
   have hbit:=HB.out k (by omega)
   have HSU:=Lib.hid (bitsTo_succ s k)
   have hlen:=bitsTo_len s k
   cases hb:s.testBit k with
   | true =>
    rw [hb,if_pos rfl] at hbit
    have HSN:Hid (bitsTo s (k+1)=bitsTo s k ++ [(k:Int)]):=Lib.hid (by rw [HSU.out,hb,if_pos rfl])
    have hown:=HO.out
    have hsz:=HBR.out.size
    obtain ⟨len,hlen2⟩:∃ len,(bitsTo s k).length=len:=⟨_,rfl⟩
    have HLEN:Hid ((bitsTo s k).length=len):=Lib.hid hlen2
    rw [hlen2] at hown hlen
    clear hb hlen2
    go_wp2_with (at_builtin;refine wpList_append_own _ rfl _ _ 48 rfl w1.heap.size 3 i0 (.int .i64 0) 1 8 Tryz.underlying48 hi hz0 hz1 hz2 rfl (by decide) _ _ _ rfl (hown.alloc _) ⟨wr.heap.size,0,none⟩ 1 1 [.int .i64 (k:Int)] rfl rfl ?qc2 ?qc3 ?qc4 ?qc5 ?qc6 ?_)
    case qc2=>intro j u hj;match j,hj with | 0,hj=>simp at hj;subst hj;simp [Addr.add]
    case qc3=>intro u hu;simp at hu;subst hu;rfl
    case qc4=>unfold maxLen;omega
    case qc5=>omega
    case qc6=>simp;omega
    intro v' w2 hown' hgrow _
    have HB2:Hid (Below w1.heap.size w1 w2):=Lib.hid (by
     have h1:=HBR.out.alloc HBR.out.size (.cells #[.int .i64 (k:Int)] 3)
     exact h1.grown hgrow h1.size fun g hg=>(hown.lt g hg).1)
    have HO2:Hid (w2.ownsRow w1.heap.size 3 1 v' (bitsTo s (k+1)).length (rowsI (bitsTo s (k+1)))):=Lib.hid (by
     rw [HSN.out,rowsI_snoc,List.length_append,List.length_singleton,HLEN.out];exact hown')
    clear hgrow hown' hown
    go_wp2_with fail
    go_roundw
    case rel=>exact ⟨k+1,by omega,by go_num,Lib.hid ⟨HB2.out,HO2.out⟩⟩
    case measure=>simp [intOf];omega
   | false =>
    rw [hb,if_neg (by decide)] at hbit
    have HSN:Hid (bitsTo s (k+1)=bitsTo s k):=Lib.hid (by rw [HSU.out,hb,if_neg (by decide)])
    clear hb
    go_wp2_with fail
    go_roundw
    case rel=>exact ⟨k+1,by omega,by go_num,Lib.hid ⟨HBR.out,by rw [HSN.out];exact HO.out⟩⟩
    case measure=>simp [intOf];omega
  ·obtain rfl:k=n:=by omega
   go_wp2_with fail
   exact HFIN.out _ _ HO.out HBR.out
def o1E (x:Int):Int:=IntKind.u64.wrap (bits .and .u64 (x / 2) 6148914691236517205+bits .and .u64 x 6148914691236517205)
def o2E (x:Int):Int:=IntKind.u64.wrap (bits .and .u64 (x / 4) 3689348814741910323+bits .and .u64 x 3689348814741910323)
def o3E (x:Int):Int:=bits .and .u64 (IntKind.u64.wrap (x / 16+x)) 1085102592571150095
def o4E (x:Int):Int:=IntKind.u64.wrap (x+x / 256)
def o5E (x:Int):Int:=IntKind.u64.wrap (x+x / 65536)
def o6E (x:Int):Int:=IntKind.u64.wrap (x+x / 4294967296)
def onesE (x:Int):Int:=bits .and .i64 (wrap64 (o6E (o5E (o4E (o3E (o2E (o1E x))))))) 127
theorem ones_all:((List.range 64).all fun s=>decide (onesE (s:Int)=(sizeS s:Nat)))=true:=by kernel_rfl
theorem ones_eq {s:Nat} (hs:s<64):onesE (s:Int)=(sizeS s:Nat):=of_decide_eq_true (List.all_eq_true.1 ones_all s (List.mem_range.2 hs))
set_option maxRecDepth 100000 in
set_option maxHeartbeats 4000000 in
theorem ones64_any (s:Nat) (hs:s<64) (w:World):Calls Tryz.prog 155 #[.int .u64 (s:Int)] w fun e w'=>e=.returned (.int .i64 (sizeS s:Nat))∧w'=w:=by
 have h0:(0:Int)≤(s:Int):=by omega
 have h1:(s:Int)<64:=by omega
 obtain ⟨R,hR⟩:∃ R:Nat,sizeS s=R:=⟨_,rfl⟩
 rw [hR]
 have HR:=Lib.hid hR
 clear hR
 go_enter Tryz.func155,Tryz.ntmps155
 go_wp2_with fail
 go_ret
 have HE:onesE (s:Int)=(R:Int):=by rw [ones_eq hs,HR.out]
 refine ⟨?_,rfl⟩
 show Ending.returned (.int .i64 (onesE (s:Int)))=_
 rw [HE]
theorem size_any (s:Nat) (hs:s<64) (w:World):Calls Tryz.prog 133 #[.int .u64 (s:Int)] w fun e w'=>e=.returned (.int .i64 (sizeS s:Nat))∧w'=w:=by
 have H:=Lib.hid (ones64_any s hs w)
 obtain ⟨R,hR⟩:∃ R:Nat,sizeS s=R:=⟨_,rfl⟩
 rw [hR] at H ⊢
 have H2:Hid (Calls Tryz.prog 149 #[.int .u64 (s:Int)] w fun e w'=>e=.returned (.int .i64 (R:Nat))∧w'=w):=Lib.hid (by
  clear hR
  go_enter Tryz.func149,Tryz.ntmps149
  go_wp2_with fail
  refine H.out.mono ?_
  rintro e w' ⟨rfl,rfl⟩
  go_wp2_with fail
  go_ret
  exact ⟨rfl,rfl⟩)
 clear hR H
 go_enter Tryz.func133,Tryz.ntmps133
 go_wp2_with fail
 refine H2.out.mono ?_
 rintro e w' ⟨rfl,rfl⟩
 go_wp2_with fail
 go_ret
 exact ⟨rfl,rfl⟩
end Go.Proofs.YtcnjenlojnognaaGreat
/- What is proved: a contract of free.behind. Conditions: the campaign is valid, the launch possible; the lists lie in memory. -/
namespace Go.Proofs.YtcnjenlojnognaaGreat
open Go.RowKit

/-- What is free, in memory. -/
def freeA (f:FreeD):Array Value:=#[.int .i64 (f.crafts 0),.int .i64 (f.crafts 1),.int .i64 (f.crafts 2),.int .i64 (f.pads 0),.int .i64 (f.pads 1),.bool (f.flown 0),.bool (f.flown 1),.bool (f.flown 2)]
theorem und_free:Tryz.prog.underlying 151=some (.struct (match Tryz.prog.underlying 151 with | some (.struct f)=>f | _=>#[])):=by kernel_rfl
theorem info_free:(Tryz.prog.info? 151).map (·.size)=some 8:=by kernel_rfl
theorem freeA_behind (c:CampD) (f:FreeD) (x:LaunchD) (ic ip:Nat) (hic:x.craft=(ic:Int)) (hip:x.pad=(ip:Int)) (hi:ic<3) (hp:ip<2) (a b:Int) (ha:a=x.day+(c.craftN ic).again) (hb:b=x.day+(c.padN ip).clean) :
  (((freeA f).setIfInBounds ic (.int .i64 a)).setIfInBounds (3+ip) (.int .i64 b)).setIfInBounds (5+ic) (.bool true)=freeA (behindB c f x):=by
 unfold behindB
 rw [hic,hip,ha,hb]
 simp only [Int.toNat_natCast,craft_nat,pad_nat]
 rcases (show ic=0 ∨ ic=1 ∨ ic=2 by omega) with rfl | rfl | rfl <;> rcases (show ip=0 ∨ ip=1 by omega) with rfl | rfl <;> rfl
def zeroF:Array Value:=#[.int .i64 0,.int .i64 0,.int .i64 0,.int .i64 0,.int .i64 0,.bool false,.bool false,.bool false]
theorem freeA_one (f:FreeD):∀ u ∈ (freeA f).toList,u.oneCell'=true:=by intro u hu;simp [freeA] at hu;rcases hu with rfl | rfl | rfl | rfl | rfl | rfl | rfl | rfl <;> rfl
theorem splA_free (cs:Array Value) (f:FreeD) (h:cs.size=8):splA cs 0 (freeA f).toList=freeA f:=by
 apply Array.ext_getElem?
 intro i
 have hl:(freeA f).toList.length=8:=rfl
 rw [splA_get _ _ _ _ (by rw [hl,h];omega)]
 by_cases hi:i<8
 ·rw [if_pos ⟨Nat.zero_le _,by rw [hl];omega⟩];simp
 ·rw [if_neg (by rw [hl];omega),Array.getElem?_eq_none (by omega),Array.getElem?_eq_none (by show 8≤i;omega)]
def BehPost (f:FreeD) (qb:Nat) (w:World) (e:Ending) (w':World):Prop:=e=.returned (.agg (freeA f))∧Below qb w w'
set_option maxRecDepth 100000 in
set_option maxHeartbeats 8000000 in
theorem behind_any (w:World) (V:CV) (c:CampD) (h:CampAt w w.heap.size V c) (hc:campB c=true) (f:FreeD) (x:LaunchD) (hx:possB c x=true) (A:Option Addr) (cl:Nat) :
  Calls Tryz.prog 135 #[.agg (freeA f),.agg (campA V c),.agg (launchA x A cl)] w (BehPost (behindB c f x) w.heap.size w):=by
 have hpp:=possB_parts hx
 have hxd:=possB_day hc hx
 obtain ⟨ic,hic⟩:∃ ic:Nat,x.craft=(ic:Int):=⟨x.craft.toNat,by have:=hpp.1;omega⟩
 obtain ⟨ip,hip⟩:∃ ip:Nat,x.pad=(ip:Int):=⟨x.pad.toNat,by have:=hpp.2.2.1;omega⟩
 have hlen:=camp_len hc
 obtain ⟨nc,hnc⟩:∃ nc,c.crafts.length=nc:=⟨_,rfl⟩
 obtain ⟨np,hnp⟩:∃ np,c.pads.length=np:=⟨_,rfl⟩
 have hicn:ic<nc:=by have:=hpp.2.1;omega
 have hipn:ip<np:=by have:=hpp.2.2.2.1;omega
 obtain ⟨W0,hW0⟩:∃ W0,(((w.alloc (.cells (freeA f) 151)).alloc (.cells (campA V c) 26)).alloc (.cells (launchA x A cl) 52)).alloc (.cells zeroF 151)=W0:=⟨_,rfl⟩
 have hb0:Below w.heap.size w W0:=by rw [← hW0];exact ((((Below.refl _ w).alloc (Nat.le_refl _) _).alloc (by simp) _).alloc (by simp;omega) _).alloc (by simp;omega) _
 obtain ⟨qb,hqb⟩:∃ qb,w.heap.size=qb:=⟨_,rfl⟩
 have HKF:Hid (Bk W0 qb 151 (freeA f)):=Lib.hid (by rw [← hW0,← hqb];exact (((Bk.new _ _ _).alloc _).alloc _).alloc _)
 have HKC:Hid (Bk W0 (qb+1) 26 (campA V c)):=Lib.hid (by rw [← hW0,← hqb];exact ((Bk.newAt _ _ _ _ (by simp)).alloc _).alloc _)
 have HKL:Hid (Bk W0 (qb+1+1) 52 (launchA x A cl)):=Lib.hid (by rw [← hW0,← hqb];exact (Bk.newAt _ _ _ _ (by simp)).alloc _)
 have HKR:Hid (Bk W0 (qb+1+1+1) 151 zeroF):=Lib.hid (by rw [← hW0,← hqb];exact Bk.newAt _ _ _ _ (by simp))
 have HB0:Hid (Below qb w W0):=Lib.hid (by rw [← hqb];exact hb0)
 obtain ⟨cb,co,hcA,hcb,_,_,_,g3⟩:=Sl.at4 (h.later hb0).crafts (i:=ic) (by rw [hnc];exact hicn)
 obtain ⟨pb,po,hpA,hpb,_,g1,_⟩:=Sl.at3 (h.later hb0).pads (i:=ip) (by rw [hnp];exact hipn)
 dsimp only [craftC] at g3
 dsimp only [padC] at g1
 obtain ⟨ag,hag⟩:∃ ag,(c.craftN ic).again=ag:=⟨_,rfl⟩
 obtain ⟨cn,hcn⟩:∃ cn,(c.padN ip).clean=cn:=⟨_,rfl⟩
 have hagb:=camp_craft hc (ic:Int)
 have hcnb:=camp_pad hc (ip:Int)
 rw [craft_nat,hag] at hagb
 rw [pad_nat,hcn] at hcnb
 obtain ⟨hag0,hag1,_⟩:=hagb
 obtain ⟨hcn0,hcn1⟩:=hcnb
 rw [hag] at g3
 rw [hcn] at g1
 have hba:cb<qb:=by
  obtain ⟨b',o',e',hlt',_⟩:=Sl.at4 h.crafts (i:=ic) (by rw [hnc];exact hicn)
  rw [hcA] at e';injection e' with e';injection e' with e';omega
 have hbp:pb<qb:=by
  obtain ⟨b',o',e',hlt',_⟩:=Sl.at3 h.pads (i:=ip) (by rw [hnp];exact hipn)
  rw [hpA] at e';injection e' with e';injection e' with e';omega
 obtain ⟨xd,hxdv⟩:∃ d,x.day=d:=⟨_,rfl⟩
 have HEQ:=Lib.hid (freeA_behind c f x ic ip hic hip (by omega) (by omega) (xd+ag) (xd+cn) (by rw [← hxdv,hag]) (by rw [← hxdv,hcn]))
 obtain ⟨PQ,hPQ⟩:∃ Q,BehPost (behindB c f x) w.heap.size w=Q:=⟨_,rfl⟩
 have HFIN:Hid (∀ w',Below qb w w'→PQ (.returned (.agg (freeA (behindB c f x)))) w'):=Lib.hid fun w' h1=>by rw [← hPQ,hqb];exact ⟨rfl,h1⟩
 rw [hxdv] at hxd
 obtain ⟨hxd0,hxd1⟩:=hxd
 have k0:W0.cell? ⟨qb+1,0,none⟩=some (.slice V.cA nc V.cc):=by rw [← hnc];exact HKC.out.cell 0
 have k1:W0.cell? ⟨qb+1,1,none⟩=some (.slice V.pA np V.pc):=by rw [← hnp];exact HKC.out.cell 1
 have l0:W0.cell? ⟨qb+1+1,0,none⟩=some (.int .i64 xd):=by rw [← hxdv];exact HKL.out.cell 0
 have l1:W0.cell? ⟨qb+1+1,1,none⟩=some (.int .i64 (ic:Int)):=by rw [← hic];exact HKL.out.cell 1
 have l2:W0.cell? ⟨qb+1+1,2,none⟩=some (.int .i64 (ip:Int)):=by rw [← hip];exact HKL.out.cell 2
 rw [hcA] at k0
 rw [hpA] at k1
 have hws1:IntKind.i64.wrap (xd+ag)=xd+ag:=IntWalk.i64_in _ (by omega)
 have hws2:IntKind.i64.wrap (xd+cn)=xd+cn:=IntWalk.i64_in _ (by omega)
 have HWS1:=Lib.hid hws1
 have HWS2:=Lib.hid hws2
 rw [hPQ]
 have hnc3:nc≤3:=by omega
 have hnp2:np≤2:=by omega
 have HLT:Hid (qb+1+1+1<W0.heap.size):=Lib.hid HKR.out.lt
 -- the facts of the later worlds
 have HC1:Hid (∀ w1,Only qb W0 w1→w1.cell? ⟨qb+1,1,none⟩=some (.slice (some ⟨pb,po,none⟩) np V.pc)∧w1.cell? ⟨qb+1+1,0,none⟩=some (.int .i64 xd)∧w1.cell? ⟨qb+1+1,1,none⟩=some (.int .i64 (ic:Int))∧w1.cell? ⟨qb+1+1,2,none⟩=some (.int .i64 (ip:Int))∧w1.cell? ⟨pb,po+ip * 3+1,none⟩=some (.int .i64 cn)):=Lib.hid fun w1 ho=>by
  have hcl:∀ b o,b ≠ qb→w1.cell? ⟨b,o,none⟩=W0.cell? ⟨b,o,none⟩:=fun b o hne=>World.cell?_of_block (ho.block b hne)
  exact ⟨(hcl _ _ (by omega)).trans k1,(hcl _ _ (by omega)).trans l0,(hcl _ _ (by omega)).trans l1,(hcl _ _ (by omega)).trans l2,(hcl _ _ (by omega)).trans g1⟩
 have HF0:Hid (∀ i,i<8→∃ u,W0.cell? ⟨qb,i,none⟩=some u):=Lib.hid fun i hi=>by
  rw [HKF.out.cell]
  exact ⟨_,Array.getElem?_eq_getElem (show i<(freeA f).size from hi)⟩
 have f0:=HKF.out.free
 clear h hc hx hpp hic hip hlen hnc hnp hcA hpA hag hcn hxdv hPQ hb0 hws1 hws2 k1 l2 g1 f0
 have h0ic:(0:Int)≤(ic:Int):=by omega
 have h0ip:(0:Int)≤(ip:Int):=by omega
 have hic3:(ic:Int)<3:=by omega
 have hip2:(ip:Int)<2:=by omega
 have hicn':(ic:Int)<(nc:Int):=by omega
 have hipn':(ip:Int)<(np:Int):=by omega
 simp only [freeA,campA,launchA,zeroF] at hW0
 obtain ⟨u0,hu0⟩:=HF0.out ic (by omega)
 have fz:W0.frozen? ⟨qb,ic,none⟩=false:=HKF.out.free _
 simp only [freeA,campA,launchA]
 go_enter Tryz.func135,Tryz.ntmps135
 go_upto_region 1 with (fail)
 clear hW0 hqb
 have hws:=HWS1.out
 go_still_tail 14,(by kernel_rfl)
 go_upto_region 2 with (fail)
 obtain ⟨W1,hW1⟩:∃ W1,(W0.setCell ⟨qb,ic,none⟩ (.int .i64 (xd+ag))).drew=W1:=⟨_,rfl⟩
 have HO1:Hid (Only qb W0 W1):=Lib.hid (by rw [← hW1];exact (show Only qb W0 _ from ⟨rfl,rfl,rfl,by simp,fun k hk=>(Only.setCell W0 qb ic _).block k hk⟩))
 have HK1:Hid (Bk W1 qb 151 ((freeA f).setIfInBounds ic (.int .i64 (xd+ag)))):=Lib.hid (by rw [← hW1];exact HKF.out.set ic _)
 rw [hW1]
 clear hW1 hws k0 l0 l1 g3 hu0 fz
 obtain ⟨m1,m2,m3,m4,m5⟩:=HC1.out W1 HO1.out
 have hz1:((freeA f).setIfInBounds ic (.int .i64 (xd+ag))).size=8:=by rw [Array.size_setIfInBounds];rfl
 obtain ⟨u1,hu1⟩:∃ u,W1.cell? ⟨qb,3+ip,none⟩=some u:=by rw [HK1.out.cell];exact ⟨_,Array.getElem?_eq_getElem (by rw [hz1];omega)⟩
 have fz:W1.frozen? ⟨qb,3+ip,none⟩=false:=HK1.out.free _
 have hws:=HWS2.out
 clear hz1
 go_still_tail 14,(by kernel_rfl)
 go_upto_region 3 with (fail)
 obtain ⟨W2,hW2⟩:∃ W2,(W1.setCell ⟨qb,3+ip,none⟩ (.int .i64 (xd+cn))).drew=W2:=⟨_,rfl⟩
 have HO2:Hid (Only qb W0 W2):=Lib.hid (by rw [← hW2];exact HO1.out.trans (show Only qb W1 _ from ⟨rfl,rfl,rfl,by simp,fun k hk=>(Only.setCell W1 qb (3+ip) _).block k hk⟩))
 have HK2:Hid (Bk W2 qb 151 (((freeA f).setIfInBounds ic (.int .i64 (xd+ag))).setIfInBounds (3+ip) (.int .i64 (xd+cn)))):=Lib.hid (by rw [← hW2];exact HK1.out.set (3+ip) _)
 rw [hW2]
 clear hW2 hws m1 m2 m3 m4 m5 hu1 fz
 obtain ⟨m1,m2,m3,m4,m5⟩:=HC1.out W2 HO2.out
 have hz2:(((freeA f).setIfInBounds ic (.int .i64 (xd+ag))).setIfInBounds (3+ip) (.int .i64 (xd+cn))).size=8:=by rw [Array.size_setIfInBounds,Array.size_setIfInBounds];rfl
 obtain ⟨u2,hu2⟩:∃ u,W2.cell? ⟨qb,5+ic,none⟩=some u:=by rw [HK2.out.cell];exact ⟨_,Array.getElem?_eq_getElem (by rw [hz2];omega)⟩
 have fz:W2.frozen? ⟨qb,5+ic,none⟩=false:=HK2.out.free _
 clear hz2
 go_upto_region 4 with (fail)
 obtain ⟨W3,hW3⟩:∃ W3,W2.setCell ⟨qb,5+ic,none⟩ (.bool true)=W3:=⟨_,rfl⟩
 have HO3:Hid (Only qb W0 W3):=Lib.hid (by rw [← hW3];exact HO2.out.trans (Only.setCell W2 qb (5+ic) _))
 have HK3:Hid (Bk W3 qb 151 (freeA (behindB c f x))):=Lib.hid (by rw [← hW3,← HEQ.out];exact HK2.out.set (5+ic) _)
 rw [hW3]
 clear hW3 m1 m2 m3 m4 m5 hu2 fz
 have HKR3:Hid (Bk W3 (qb+1+1+1) 151 zeroF):=Lib.hid (HKR.out.only HO3.out (by omega))
 go_wp2_with (first | (refine wpLoadAt rfl 151 _ rfl qb 0 rfl (freeA (behindB c f x)) _ (fun j u hj=>by rw [Nat.zero_add,HK3.out.cell];exact hj) und_free rfl info_free ?_) | (refine wpStoreAt rfl rfl 151 _ _ rfl (qb+1+1+1) 0 rfl (freeA (behindB c f x)) rfl 151 _ HKR3.out (by show 0+8≤8;omega) (freeA_one _) info_free ?_;intro wf hkf hof))
 rw [splA_free zeroF _ rfl] at hkf
 have HEND:Hid (Below qb w wf):=Lib.hid ((HB0.out.trans (HO3.out.below (Nat.le_refl _))).trans (hof.below (by omega)))
 refine bodyPost_ret (v:=.agg (freeA (behindB c f x))) (results_cellS rfl _ _ (qb+1+1+1) 151 (freeA (behindB c f x)) _ rfl hkf und_free rfl info_free) rfl (HFIN.out _ HEND.out)
end Go.Proofs.YtcnjenlojnognaaGreat
/- What is proved: the rules for regions whose order is drawn, within a round of a range over a function. Conditions: those that the rules state. -/
namespace Go.Proofs.YtcnjenlojnognaaGreat
open Go.RowKit

def noDefer (o:Oper):Bool:=match o.op with | .defer _=>false | _=>true
theorem Oper.wpIn_of_wp {P:Program} {Q:Exit→Act→World→Prop} {K:Act→World→Prop} {o:Oper} {a:Act} {w:World} (l₀ n:Nat) (hd:noDefer o=true) (h:o.wp P a w K Q):o.wpIn (Fence.wide.inRound l₀) n P a w K Q:=by
 unfold Oper.wp at h
 unfold Oper.wpIn
 refine ⟨fun _ _=>trivial,?_⟩
 rw [show (Fence.wide.inRound l₀).round=some l₀ from rfl,Oper.semAt_some l₀ _ _ (fun c hc=>by unfold noDefer at hd;rw [hc] at hd;cases hd)]
 generalize (execOp a.eval o).run P w=r at *
 cases r with
 | ok x w' =>
  cases x <;> simp only [Oper.upon] at h <;> simp only [Oper.uponIn]
  case value u=>exact h
  case skip=>exact h
  case defer d=>exact h
  case enter f args=>exact ⟨fun hs=>by simp [Fence.wide,Fence.inRound] at hs,(CallsIn.inRound l₀ (callsIn_wide.2 h)).mono fun e w'' he=>by cases e <;> exact he⟩
  case row r args=>exact ⟨fun hs=>by simp [Fence.wide,Fence.inRound] at hs,fun c cs _=>let ⟨v,w',q,s⟩:=h c cs;⟨v,w',q,stepsIn_wide.2 s⟩⟩
  all_goals exact absurd h (by simp)
 | halt x w'=>cases x <;> simp only [Oper.upon] at h <;> simp only [Oper.uponIn] <;> exact h
section
variable {P:Program} {l:List Oper} {Q:Exit→Act→World→Prop} {a0:Act}
theorem wpi_region_extJ {id:Nat} {w0:World} (l₀ n:Nat) (hdf:l.all noDefer=true) (hm:P.follows .mixedOrders=true) (hB:regB l a0.tmps.size=true)
  (J:(Nat→Bool)→(Nat→Value)→World→Prop) (E:Nat→World→World→Prop) (R:Nat→Value→(Nat→Value)→World→Prop) (hJ:∀ vs,J (fun _=>false) vs w0.drew)
  (hR:∀ i j,i ≠ j→ancB l l.length i j=false→∀ v d w w',R i v d w→E j w w'→R i v d w')
  (hstep:∀ i o,l[i]?=some o→∀ (a:Act) (w:World) (vs:Nat→Value) (dn:Nat→Bool),a.defers=a0.defers→a.tmps.size=a0.tmps.size→(∀ m,dn m=true→i ≠ m∧ancB l l.length m i=false)→(∀ j,afterB o j=true→dn j=true)→J dn vs w→(∀ t,keepB l i t=true→a.tmps.getD t undef=a0.tmps.getD t undef) →
   (∀ j oj d,afterB o j=true→l[j]?=some oj→oj.dst=some d→a.tmps.getD d undef=vs j)→(∀ j oj,afterB o j=true→l[j]?=some oj→R j (vs j) (maskV oj vs) w) →
   if Region.wanted o (yielded l.toArray a.tmps) then o.wp P a w (fun a' w'=>∃ v,(o.dst=none→v=undef)∧a'=a.put o.dst v∧J (updB dn i) (updV vs i v) w'∧E i w w'∧R i v (maskV o vs) w') Q else J (updB dn i) (updV vs i undef) w∧E i w w∧R i undef (maskV o vs) w)
  (hend:∀ (vs:Nat→Value) (dn:Nat→Bool) (w:World),(∀ i,i<l.length→dn i=true)→J dn vs w→(∀ i o,l[i]?=some o→R i (vs i) (maskV o vs) w)→Q .normal (putAll l vs 0 a0) w) :
  (Code.region id l.toArray true).wpIn (Fence.wide.inRound l₀) n P Q a0 w0:=by
 refine wpIn_region_any hm ?_
 have key:∀ (fuel:Nat) (listed:Array Bool) (a:Act) (w:World),listed.size=l.length→(listed.toList.filter (!·)).length≤fuel→a.defers=a0.defers→a.tmps.size=a0.tmps.size→J (fun k=>listed.getD k false) (vsOf l a) w →
   (∀ t,(∀ (i:Nat) (o:Oper),l[i]?=some o→listed.getD i false=true→o.dst ≠ some t)→a.tmps.getD t undef=a0.tmps.getD t undef) →
   (∀ i o,l[i]?=some o→listed.getD i false=true→R i (vsOf l a i) (maskV o (vsOf l a)) w) →
   (∀ i o,l[i]?=some o→listed.getD i false=true→∀ j,afterB o j=true→listed.getD j false=true) →
   wpAnyIn (Fence.wide.inRound l₀) n P .any l.toArray Q fuel listed a w:=by
  -- nothing is ready: all have come up
  have fin:∀ (listed:Array Bool) (a:Act) (w:World),listed.size=l.length→Region.ready .any l.toArray listed=[]→a.defers=a0.defers→a.tmps.size=a0.tmps.size→J (fun k=>listed.getD k false) (vsOf l a) w →
    (∀ t,(∀ (i:Nat) (o:Oper),l[i]?=some o→listed.getD i false=true→o.dst ≠ some t)→a.tmps.getD t undef=a0.tmps.getD t undef) →
    (∀ (i:Nat) (o:Oper),l[i]?=some o→listed.getD i false=true→R i (vsOf l a i) (maskV o (vsOf l a)) w)→Q .normal a w:=by
   intro listed a w hs hr hd hz hj hk hRR
   have hall:∀ m i,i<m→i<l.length→listed.getD i false=true:=by
    intro m
    induction m with
    | zero=>intro i h;omega
    | succ m ih =>
     intro i him hil
     cases hli:listed.getD i false with
     | true=>rfl
     | false =>
      exfalso
      have hmem:i ∈ Region.ready .any l.toArray listed:=by
       rw [mem_ready]
       refine ⟨?_,l[i],by simp [hil],fun e he hb=>?_⟩
       ·have:i<listed.size:=by omega
        simp [this] at hli ⊢;exact hli
       ·have:=regB_after hB (i:=i) (o:=l[i]) (by simp [hil]) he hb
        exact ih e.on (by omega) (by omega)
      rw [hr] at hmem;cases hmem
   have hall':∀ i o,l[i]?=some o→listed.getD i false=true:=fun i o hi=>hall (i+1) i (by omega) (List.getElem?_eq_some_iff.1 hi).1
   have ha:a=putAll l (vsOf l a) 0 a0:=by
    obtain ⟨p1,p2⟩:=putAll_size l (vsOf l a) 0 a0
    have ht:a.tmps=(putAll l (vsOf l a) 0 a0).tmps:=by
     apply Array.ext (by rw [p1,hz])
     intro t h1 h2
     have e1:a.tmps[t]=a.tmps.getD t undef:=by simp [h1]
     have e2:(putAll l (vsOf l a) 0 a0).tmps[t]=(putAll l (vsOf l a) 0 a0).tmps.getD t undef:=by simp [h2]
     rw [e1,e2]
     by_cases hex:∃ (i:Nat) (o:Oper),l[i]?=some o∧o.dst=some t
     ·obtain ⟨i,o,hi,hdt⟩:=hex
      rw [putAll_at l t (vsOf l a) 0 a0 i o hi hdt (by omega) (fun j' o' hlt hj' hdj=>by have:=regB_ne hB hi hj' hdt hdj;omega),Nat.zero_add]
      simp only [vsOf,hi,hdt]
     ·rw [putAll_other l t _ _ _ (fun j o hj hd=>hex ⟨j,o,hj,hd⟩)]
      exact hk t (fun i o hi _ hd=>hex ⟨i,o,hi,hd⟩)
    cases a with
    | mk tm df =>
     simp only at ht hd
     generalize putAll l (vsOf l ⟨tm,df⟩) 0 a0=b at ht p2
     cases b
     simp only at ht p2
     subst ht;rw [hd,← p2]
   rw [ha]
   exact hend _ _ _ (fun i hi=>hall (i+1) i (by omega) hi) hj (fun i o hi=>hRR i o hi (hall' i o hi))
  intro fuel
  induction fuel with
  | zero =>
   intro listed a w hs hf hd hz hj hk hRR hcl
   have hr:Region.ready .any l.toArray listed=[]:=by
    cases hr:Region.ready .any l.toArray listed with
    | nil=>rfl
    | cons i _ =>
     exfalso
     have hi:i ∈ Region.ready .any l.toArray listed:=by rw [hr];exact List.mem_cons_self ..
     obtain ⟨h0,o,ho,_⟩:=mem_ready.1 hi
     have hlt:i<listed.size:=by
      rcases Nat.lt_or_ge i listed.size with h | h
      ·exact h
      ·simp [Array.getElem?_eq_none h] at h0
     have:false ∈ listed.toList:=by
      simp [hlt] at h0
      rw [← h0];simp
     have h1:false ∈ listed.toList.filter (!·):=by simp [this]
     have:=List.length_pos_of_mem h1
     omega
   exact ⟨hr,fin listed a w hs hr hd hz hj hk hRR⟩
  | succ fuel ih =>
   intro listed a w hs hf hd hz hj hk hRR hcl
   refine ⟨fun hr=>fin listed a w hs hr hd hz hj hk hRR,fun i hi=>?_⟩
   obtain ⟨h0,o,ho,hpre⟩:=mem_ready.1 hi
   have hlt:i<listed.size:=by
    rcases Nat.lt_or_ge i listed.size with h | h
    ·exact h
    ·simp [Array.getElem?_eq_none h] at h0
   have hio:l[i]?=some o:=by simpa using ho
   have hi0:listed.getD i false=false:=by simp [hlt] at h0 ⊢;exact h0
   have hpre':∀ j,afterB o j=true→listed.getD j false=true:=by
    intro j hja
    unfold afterB at hja
    rw [List.any_eq_true] at hja
    obtain ⟨e,he,hh⟩:=hja
    simp only [Bool.and_eq_true,beq_iff_eq] at hh
    rw [← hh.2];exact hpre e (Array.mem_toList_iff.1 he) hh.1
   have hnew:∀ k,(listed.setIfInBounds i true).getD k false=true ↔ (k=i ∨ listed.getD k false=true):=by
    intro k
    by_cases hki:k=i
    ·subst hki;simp [hlt]
    ·rw [getD_set_ne false (Ne.symm hki)];simp [hki]
   have hcnt:((listed.setIfInBounds i true).toList.filter (!·)).length≤fuel:=by
    have:∀ (L:List Bool) (i:Nat),L[i]?=some false→(L.filter (!·)).length=((L.set i true).filter (!·)).length+1:=by
     intro L
     induction L with
     | nil=>intro i h;simp at h
     | cons b L ihL =>
      intro i h
      cases i with
      | zero=>simp at h;subst h;simp
      | succ i =>
       simp at h
       have:=ihL i h
       cases b <;> simp_all
    have h1:=this listed.toList i (by simp [hlt] at hi0;simp [hlt,hi0])
    rw [Array.toList_setIfInBounds]
    omega
   have cont:∀ (v:Value) (w':World),(o.dst=none→v=undef)→J (updB (fun k=>listed.getD k false) i) (updV (vsOf l a) i v) w'→E i w w'→R i v (maskV o (vsOf l a)) w' →
     wpAnyIn (Fence.wide.inRound l₀) n P .any l.toArray Q fuel (listed.setIfInBounds i true) (a.put o.dst v) w':=by
    intro v w' hv hj' he hr
    have hvk:∀ k,k ≠ i→vsOf l (a.put o.dst v) k=vsOf l a k:=fun k hk=>vsOf_put hB hio v hk
    have hvi:vsOf l (a.put o.dst v) i=v:=vsOf_put_same hio v hv (fun d hdd=>by rw [hz];exact (regB_dst hB hio hdd).1)
    refine ih _ _ _ (by simpa using hs) hcnt ((put_defers ..).trans hd) ((put_size ..).trans hz) (by
     have e1:(fun k=>(listed.setIfInBounds i true).getD k false)=updB (fun k=>listed.getD k false) i:=by
      funext k
      unfold updB
      by_cases hki:k=i
      ·rw [if_pos hki];exact (hnew k).2 (.inl hki)
      ·rw [if_neg hki,getD_set_ne false (Ne.symm hki)]
     have e2:vsOf l (a.put o.dst v)=updV (vsOf l a) i v:=by
      funext k
      unfold updV
      by_cases hki:k=i
      ·rw [if_pos hki,hki];exact hvi
      ·rw [if_neg hki];exact hvk k hki
     rw [e1,e2];exact hj') ?_ ?_ ?_
    ·intro t ht
     have h1:o.dst ≠ some t:=ht i o hio ((hnew i).2 (.inl rfl))
     rw [← hk t (fun k ok hkk hlk=>ht k ok hkk ((hnew k).2 (.inr hlk)))]
     cases hd':o.dst with
     | none=>rfl
     | some d=>rw [put_getD,if_neg];rintro ⟨rfl,_⟩;exact h1 hd'
    ·intro k ok hkk hlk
     by_cases hki:k=i
     ·subst hki
      rw [hio] at hkk;obtain rfl:=Option.some.inj hkk
      have hmask:maskV o (vsOf l (a.put o.dst v))=maskV o (vsOf l a):=by
       funext j
       unfold maskV
       by_cases hja:afterB o j=true
       ·rw [if_pos hja,if_pos hja,hvk j (by have:=afterB_lt hB hio hja;omega)]
       ·rw [if_neg hja,if_neg hja]
      rw [hvi,hmask];exact hr
     ·have hlk':listed.getD k false=true:=((hnew k).1 hlk).resolve_left hki
      have hmask:maskV ok (vsOf l (a.put o.dst v))=maskV ok (vsOf l a):=by
       funext j
       unfold maskV
       by_cases hja:afterB ok j=true
       ·have hlj:=hcl k ok hkk hlk' j hja
        rw [if_pos hja,if_pos hja,hvk j (by rintro rfl;rw [hi0] at hlj;cases hlj)]
       ·rw [if_neg hja,if_neg hja]
      rw [hvk k hki,hmask]
      refine hR k i hki ?_ _ _ w w' (hRR k ok hkk hlk') he
      cases hanc:ancB l l.length k i with
      | false=>rfl
      | true =>
       have:=anc_listed (listed:=fun i=>listed.getD i false) hcl l.length k i hlk' hanc
       rw [show listed.getD i false=true from this] at hi0;cases hi0
    ·intro k ok hkk hlk j hja
     rw [hnew]
     by_cases hki:k=i
     ·subst hki
      rw [hio] at hkk;obtain rfl:=Option.some.inj hkk
      exact .inr (hpre' j hja)
     ·exact .inr (hcl k ok hkk (((hnew k).1 hlk).resolve_left hki) j hja)
   have hst:=hstep i o hio a w (vsOf l a) (fun k=>listed.getD k false) hd hz (fun m hm=>⟨(by rintro rfl;rw [hi0] at hm;cases hm),by
     cases hanc:ancB l l.length m i with
     | false=>rfl
     | true =>
      have:=anc_listed (listed:=fun i=>listed.getD i false) hcl l.length m i hm hanc
      rw [show listed.getD i false=true from this] at hi0;cases hi0⟩) hpre' hj
    (fun t ht=>hk t (fun k ok hkk hlk hdk=>by
     unfold keepB at ht
     rw [List.all_eq_true] at ht
     have h1:=ht k (by simpa using (List.getElem?_eq_some_iff.1 hkk).1)
     simp only [hkk,Bool.or_eq_true,bne_iff_ne,ne_eq,beq_iff_eq] at h1
     rcases h1 with (h1 | h1) | h1
     ·exact h1 hdk
     ·subst h1;rw [hi0] at hlk;cases hlk
     ·have:=hcl k ok hkk hlk i h1
      rw [hi0] at this;cases this))
    (fun j oj d _ hjl hdj=>by simp only [vsOf,hjl,hdj])
    (fun j oj hja hjl=>hRR j oj hjl (hpre' j hja))
   unfold wpOpIn
   simp only [ho]
   by_cases hw:Region.wanted o (yielded l.toArray a.tmps)=true
   ·rw [if_pos hw] at hst ⊢
    exact Oper.wpIn_of_wp l₀ n (List.all_eq_true.1 hdf o (List.mem_of_getElem? hio)) (Oper.wp_mono (fun a' w' ⟨v,h1,h2,h3,h4,h5⟩=>by subst h2;exact cont v w' h1 h3 h4 h5) hst)
   ·rw [if_neg hw] at hst ⊢
    exact ⟨fun _ _=>trivial,cont undef w (fun _=>rfl) hst.1 hst.2.1 hst.2.2⟩
 have h00:∀ k,(Array.replicate l.toArray.size false).getD k false=false:=fun k=>by
  by_cases h:k<l.length <;> simp [h]
 refine key l.toArray.size (Array.replicate l.toArray.size false) a0 _ (by simp) ?_ rfl rfl (by rw [show (fun k=>(Array.replicate l.toArray.size false).getD k false)=fun _=>false from funext h00];exact hJ _) (fun _ _=>rfl) ?_ ?_
 ·refine Nat.le_trans (List.length_filter_le _ _) ?_
  simp
 ·intro i o hi hl
  have h0:(Array.replicate l.toArray.size false).getD i false=false:=by
   by_cases h:i<l.length <;> simp [h]
  rw [h0] at hl;cases hl
 ·intro i o hi hl
  have h0:(Array.replicate l.toArray.size false).getD i false=false:=by
   by_cases h:i<l.length <;> simp [h]
  rw [h0] at hl;cases hl

theorem wpi_region_extM {id:Nat} {w0:World} (l₀ n:Nat) (hdf:l.all noDefer=true) (hm:P.follows .mixedOrders=true) (hB:regB l a0.tmps.size=true)
  (m:Nat) (J:Bool→World→Prop) (E:Nat→World→World→Prop) (R:Nat→Value→(Nat→Value)→World→Prop) (hJ:J false w0.drew)
  (hR:∀ i j,i ≠ j→ancB l l.length i j=false→∀ v d w w',R i v d w→E j w w'→R i v d w')
  (hstep:∀ i o,l[i]?=some o→∀ (a:Act) (w:World) (vs:Nat→Value) (b:Bool),a.defers=a0.defers→a.tmps.size=a0.tmps.size→(b=true→i ≠ m∧ancB l l.length m i=false)→J b w→(∀ t,keepB l i t=true→a.tmps.getD t undef=a0.tmps.getD t undef) →
   (∀ j oj d,afterB o j=true→l[j]?=some oj→oj.dst=some d→a.tmps.getD d undef=vs j)→(∀ j oj,afterB o j=true→l[j]?=some oj→R j (vs j) (maskV oj vs) w) →
   if Region.wanted o (yielded l.toArray a.tmps) then o.wp P a w (fun a' w'=>∃ v,(o.dst=none→v=undef)∧a'=a.put o.dst v∧J (b || i == m) w'∧E i w w'∧R i v (maskV o vs) w') Q else J (b || i == m) w∧E i w w∧R i undef (maskV o vs) w)
  (hend:∀ (vs:Nat→Value) (w:World),(m<l.length→J true w)→(∀ i o,l[i]?=some o→R i (vs i) (maskV o vs) w)→Q .normal (putAll l vs 0 a0) w) :
  (Code.region id l.toArray true).wpIn (Fence.wide.inRound l₀) n P Q a0 w0:=by
 refine wpi_region_extJ l₀ n hdf hm hB (fun dn _ w=>J (dn m) w) E R (fun _=>hJ) hR ?_ (fun vs dn w h1 h2 h3=>hend vs w (fun hl=>by have:=h1 m hl;simp only [this] at h2;exact h2) h3)
 intro i o hi a w vs dn h1 h2 h3 _ h5 h6 h7 h8
 have e:∀ i,updB dn i m=(dn m || i == m):=fun i=>by
  unfold updB
  by_cases h:m=i
  ·subst h;simp
  ·rw [if_neg h,show (i == m)=false from by rw [beq_eq_false_iff_ne];exact Ne.symm h];simp
 simp only [e]
 exact hstep i o hi a w vs (dn m) h1 h2 (h3 m) h5 h6 h7 h8

theorem wpi_region_ext {id:Nat} {w0:World} (l₀ n:Nat) (hdf:l.all noDefer=true) (hm:P.follows .mixedOrders=true) (hB:regB l a0.tmps.size=true)
  (J:World→Prop) (E:Nat→World→World→Prop) (R:Nat→Value→(Nat→Value)→World→Prop) (hJ:J w0.drew)
  (hR:∀ i j,i ≠ j→ancB l l.length i j=false→∀ v d w w',R i v d w→J w→E j w w'→R i v d w')
  (hstep:∀ i o,l[i]?=some o→∀ (a:Act) (w:World) (vs:Nat→Value),a.defers=a0.defers→a.tmps.size=a0.tmps.size→J w→(∀ t,keepB l i t=true→a.tmps.getD t undef=a0.tmps.getD t undef) →
   (∀ j oj d,afterB o j=true→l[j]?=some oj→oj.dst=some d→a.tmps.getD d undef=vs j)→(∀ j oj,afterB o j=true→l[j]?=some oj→R j (vs j) (maskV oj vs) w) →
   if Region.wanted o (yielded l.toArray a.tmps) then o.wp P a w (fun a' w'=>∃ v,(o.dst=none→v=undef)∧a'=a.put o.dst v∧J w'∧E i w w'∧R i v (maskV o vs) w') Q else E i w w∧R i undef (maskV o vs) w)
  (hend:∀ (vs:Nat→Value) (w:World),J w→(∀ i o,l[i]?=some o→R i (vs i) (maskV o vs) w)→Q .normal (putAll l vs 0 a0) w) :
  (Code.region id l.toArray true).wpIn (Fence.wide.inRound l₀) n P Q a0 w0:=by
 refine wpi_region_extJ l₀ n hdf hm hB (fun _ _=>J) (fun j w w'=>J w∧E j w w') R (fun _=>hJ) (fun i j h1 h2 v d w w' h3 h4=>hR i j h1 h2 v d w w' h3 h4.1 h4.2) ?_ (fun vs dn w _ h2 h3=>hend vs w h2 h3)
 intro i o hi a w vs b h1 h2 _ _ h4 h5 h6 h7
 have:=hstep i o hi a w vs h1 h2 h4 h5 h6 h7
 split at this
 ·rename_i hw;rw [if_pos hw];exact Oper.wp_mono (fun a' w' ⟨v,x1,x2,x3,x4,x5⟩=>⟨v,x1,x2,x3,⟨h4,x4⟩,x5⟩) this
 ·rename_i hw;rw [if_neg hw];exact ⟨h4,⟨h4,this.1⟩,this.2⟩
end
theorem wpi_region_steps {P:Program} {l:List Oper} {Q:Exit→Act→World→Prop} {a0:Act} {id:Nat} {w0:World} (l₀ n:Nat) (hdf:l.all noDefer=true) (hm:P.follows .mixedOrders=true) (hB:regB l a0.tmps.size=true)
  (J:World→Prop) (E:Nat→World→World→Prop) (R:Nat→Value→(Nat→Value)→World→Prop) (hJ:J w0.drew)
  (hR:∀ i j,i ≠ j→ancB l l.length i j=false→∀ v d w w',R i v d w→J w→E j w w'→R i v d w')
  (hs:StepsOk P l Q a0 J E R l 0)
  (hend:∀ (vs:Nat→Value) (w:World),J w→(∀ i o,l[i]?=some o→R i (vs i) (maskV o vs) w)→Q .normal (putAll l vs 0 a0) w) :
  (Code.region id l.toArray true).wpIn (Fence.wide.inRound l₀) n P Q a0 w0:=by
 refine wpi_region_ext l₀ n hdf hm hB J E R hJ hR ?_ hend
 intro i o hi a w vs _ hz hj hk hv hr
 have h:=StepsOk.at l 0 hs i o hi
 rw [Nat.zero_add] at h
 have h1:=fun K hK=>h a w vs K hj (fun t ht=>by have:=hk t ht;simpa using this) (fun j oj d h1 h2 h3=>⟨by have:=hv j oj d h3 h1 h2;simpa using this,hr j oj h3 h1⟩) (fun j oj h1 h3=>hr j oj h3 h1) hK
 have h2:=h1 (fun a' w'=>∃ v,(o.dst=none→v=undef)∧a'=a.put o.dst v∧J w'∧E i w w'∧R i v (maskV o vs) w') (fun v w' x1 x2 x3 x4=>⟨v,x1,rfl,x2,x3,x4⟩)
 by_cases hw:Region.wanted o (yielded l.toArray a.tmps)=true
 ·rw [if_pos hw] at h2 ⊢
  exact h2
 ·rw [if_neg hw] at h2 ⊢
  obtain ⟨v,x1,x2,_,x3,x4⟩:=h2
  have hv':v=undef:=by
   cases hd:o.dst with
   | none=>exact x1 hd
   | some d =>
    rw [hd] at x2
    have hlt:=(regB_dst hB hi hd).1
    have:=congrArg (fun b:Act=>b.tmps.getD d undef) x2
    rw [put_getD,put_getD,if_pos ⟨rfl,by omega⟩,if_pos ⟨rfl,by omega⟩] at this
    exact this.symm
  subst hv'
  exact ⟨x3,x4⟩

theorem wpi_region_stepsM {P:Program} {l:List Oper} {Q:Exit→Act→World→Prop} {a0:Act} {id:Nat} {w0:World} (l₀ n:Nat) (hdf:l.all noDefer=true) (hm:P.follows .mixedOrders=true) (hB:regB l a0.tmps.size=true)
  (m:Nat) (hml:m<l.length) (J:Bool→World→Prop) (E:Nat→World→World→Prop) (R:Nat→Value→(Nat→Value)→World→Prop) (hJ:J false w0.drew)
  (hR:∀ i j,i ≠ j→ancB l l.length i j=false→∀ v d w w',R i v d w→E j w w'→R i v d w')
  (hs:StepsOkM P l Q a0 m J E R l 0)
  (hend:∀ (vs:Nat→Value) (w:World),J true w→(∀ i o,l[i]?=some o→R i (vs i) (maskV o vs) w)→Q .normal (putAll l vs 0 a0) w) :
  (Code.region id l.toArray true).wpIn (Fence.wide.inRound l₀) n P Q a0 w0:=by
 refine wpi_region_extM l₀ n hdf hm hB m J E R hJ hR ?_ (fun vs w h1 h2=>hend vs w (h1 hml) h2)
 intro i o hi a w vs b _ hz hb hj hk hv hr
 have h:=StepsOkM.at l 0 hs i o hi
 rw [Nat.zero_add] at h
 have h1:=fun K hK=>h a w vs K b hb hj (fun t ht=>by have:=hk t ht;simpa using this) (fun j oj d h1 h2 h3=>⟨by have:=hv j oj d h3 h1 h2;simpa using this,hr j oj h3 h1⟩) (fun j oj h1 h3=>hr j oj h3 h1) hK
 have h2:=h1 (fun a' w'=>∃ v,(o.dst=none→v=undef)∧a'=a.put o.dst v∧J (b || i == m) w'∧(w'=w→E i w w∧J (b || i == m) w)∧E i w w'∧R i v (maskV o vs) w') (fun v w' x1 x2 x3 x4=>⟨v,x1,rfl,x2,fun e=>by subst e;exact ⟨x3,x2⟩,x3,x4⟩)
 by_cases hw:Region.wanted o (yielded l.toArray a.tmps)=true
 ·rw [if_pos hw] at h2 ⊢
  exact Oper.wp_mono (fun a' w' ⟨v,y1,y2,y3,_,y5,y6⟩=>⟨v,y1,y2,y3,y5,y6⟩) h2
 ·rw [if_neg hw] at h2 ⊢
  obtain ⟨v,x1,x2,x3,_,x4,x5⟩:=h2
  have hv':v=undef:=by
   cases hd:o.dst with
   | none=>exact x1 hd
   | some d =>
    rw [hd] at x2
    have hlt:=(regB_dst hB hi hd).1
    have:=congrArg (fun b:Act=>b.tmps.getD d undef) x2
    rw [put_getD,put_getD,if_pos ⟨rfl,by omega⟩,if_pos ⟨rfl,by omega⟩] at this
    exact this.symm
  subst hv'
  exact ⟨x3,x4,x5⟩
theorem wpi_region_stepsJ {P:Program} {l:List Oper} {Q:Exit→Act→World→Prop} {a0:Act} {id:Nat} {w0:World} (l₀ n:Nat) (hdf:l.all noDefer=true) (hm:P.follows .mixedOrders=true) (hB:regB l a0.tmps.size=true)
  (J:(Nat→Bool)→(Nat→Value)→World→Prop) (E:Nat→World→World→Prop) (R:Nat→Value→(Nat→Value)→World→Prop) (hJ:∀ vs,J (fun _=>false) vs w0.drew)
  (hR:∀ i j,i ≠ j→ancB l l.length i j=false→∀ v d w w',R i v d w→E j w w'→R i v d w')
  (hs:StepsOkJ P l Q a0 J E R l 0)
  (hend:∀ (vs:Nat→Value) (dn:Nat→Bool) (w:World),(∀ i,i<l.length→dn i=true)→J dn vs w→(∀ i o,l[i]?=some o→R i (vs i) (maskV o vs) w)→Q .normal (putAll l vs 0 a0) w) :
  (Code.region id l.toArray true).wpIn (Fence.wide.inRound l₀) n P Q a0 w0:=by
 refine wpi_region_extJ l₀ n hdf hm hB J E R hJ hR ?_ hend
 intro i o hi a w vs b _ hz hb hb2 hj hk hv hr
 have h:=StepsOkJ.at l 0 hs i o hi
 rw [Nat.zero_add] at h
 have h1:=fun K hK=>h a w vs K b hb hb2 hj (fun t ht=>by have:=hk t ht;simpa using this) (fun j oj d h1 h2 h3=>⟨by have:=hv j oj d h3 h1 h2;simpa using this,hr j oj h3 h1⟩) (fun j oj h1 h3=>hr j oj h3 h1) hK
 have h2:=h1 (fun a' w'=>∃ v,(o.dst=none→v=undef)∧a'=a.put o.dst v∧J (updB b i) (updV vs i v) w'∧(w'=w→E i w w∧J (updB b i) (updV vs i v) w)∧E i w w'∧R i v (maskV o vs) w') (fun v w' x1 x2 x3 x4=>⟨v,x1,rfl,x2,fun e=>by subst e;exact ⟨x3,x2⟩,x3,x4⟩)
 by_cases hw:Region.wanted o (yielded l.toArray a.tmps)=true
 ·rw [if_pos hw] at h2 ⊢
  exact Oper.wp_mono (fun a' w' ⟨v,y1,y2,y3,_,y5,y6⟩=>⟨v,y1,y2,y3,y5,y6⟩) h2
 ·rw [if_neg hw] at h2 ⊢
  obtain ⟨v,x1,x2,x3,_,x4,x5⟩:=h2
  have hv':v=undef:=by
   cases hd:o.dst with
   | none=>exact x1 hd
   | some d =>
    rw [hd] at x2
    have hlt:=(regB_dst hB hi hd).1
    have:=congrArg (fun b:Act=>b.tmps.getD d undef) x2
    rw [put_getD,put_getD,if_pos ⟨rfl,by omega⟩,if_pos ⟨rfl,by omega⟩] at this
    exact this.symm
  subst hv'
  exact ⟨x3,x4,x5⟩
end Go.Proofs.YtcnjenlojnognaaGreat
/- What is proved: contracts of set.parts, and of the function that it hands back. Conditions: the set has at most six cargos; the loop's body leaves the set's box as it is. -/
namespace Go.Proofs.YtcnjenlojnognaaGreat
open Go.RowKit Go.Shelf
attribute [local go_sem] Oper.semAt_some

/-- These blocks lie as they lay. -/
def KeepL (Ks:List Nat) (w w':World):Prop:=∀ b,b ∈ Ks→w'.heap[b]?=w.heap[b]?
theorem KeepL.refl (Ks:List Nat) (w:World):KeepL Ks w w:=fun _ _=>rfl
theorem KeepL.trans {Ks:List Nat} {a b c:World} (h:KeepL Ks a b) (k:KeepL Ks b c):KeepL Ks a c:=fun x hx=>(k x hx).trans (h x hx)
theorem KeepL.drewN {Ks:List Nat} {a b:World} (h:KeepL Ks a b) (m:Nat):KeepL Ks a (b.drewN m):=fun x hx=>h x hx
theorem KeepL.below {Ks:List Nat} {a b:World} {n₀:Nat} (h:Below n₀ a b) (hk:∀ x,x ∈ Ks→x<n₀):KeepL Ks a b:=fun x hx=>h.block x (hk x hx)
theorem KeepL.cell {Ks:List Nat} {a b:World} (h:KeepL Ks a b) {p:Addr} (hp:p.block ∈ Ks):b.cell? p=a.cell? p:=World.cell?_of_block (h _ hp)

/-- A part of a set. -/
abbrev PartN (s:Nat):={ p:Nat // p ∈ partsS s }
def PartN.vals {s:Nat} (l:List (PartN s)):List Nat:=l.map (·.1)
def downL (s:Nat):List Nat:=(partsS s).reverse
def curP (s k:Nat):Nat:=(downL s).getD k 0
theorem down_all:((List.range 64).all fun s=>decide (curP s 0=s) && decide (curP s (downL s).length=0) && (List.range (downL s).length).all fun k=>decide (0<curP s k) && decide (curP s k<64) && decide (curP s (k+1)<curP s k) && decide (bits .and .u64 ((curP s k:Int) - 1) (s:Int)=(curP s (k+1):Int)))=true:=by kernel_rfl
theorem down_at {s:Nat} (hs:s<64):curP s 0=s∧curP s (downL s).length=0∧∀ k,k<(downL s).length→0<curP s k∧curP s k<64∧curP s (k+1)<curP s k∧bits .and .u64 ((curP s k:Int) - 1) (s:Int)=(curP s (k+1):Int):=by
 have h:=List.all_eq_true.1 down_all s (List.mem_range.2 hs)
 simp only [Bool.and_eq_true,decide_eq_true_eq,List.all_eq_true,List.mem_range] at h
 exact ⟨h.1.1,h.1.2,fun k hk=>⟨(h.2 k hk).1.1.1,(h.2 k hk).1.1.2,(h.2 k hk).1.2,(h.2 k hk).2⟩⟩
theorem curP_mem {s k:Nat} (hk:k<(downL s).length):curP s k ∈ partsS s:=by
 unfold curP
 rw [List.getD_eq_getElem?_getD,List.getElem?_eq_getElem hk]
 exact List.mem_reverse.1 (List.getElem_mem hk)
theorem take_down {s k:Nat} (hk:k<(downL s).length):(downL s).take (k+1)=(downL s).take k ++ [curP s k]:=by
 unfold curP
 rw [List.take_add_one,List.getD_eq_getElem?_getD,List.getElem?_eq_getElem hk]
 rfl

set_option maxHeartbeats 1000000 in
theorem parts_in (s:Nat) (w:World) :
  CallsIn Fence.wide 5 Tryz.prog 69 #[.int .u64 (s:Int)] w fun e w'=>e=.returned (.func (.func 100) #[] #[.pointer (some ⟨w.heap.size,0,none⟩)])∧w'=w.alloc (.cells #[.int .u64 (s:Int)] 94):=by
 refine callsIn_of_wp Tryz.func69 rfl trivial ?_ rfl
 simp only [Tryz.ntmps69,List.size_toArray,List.length_cons,List.length_nil,Nat.reduceAdd,Nat.reduceSub,Array.replicate_succ,Array.replicate_zero,List.push_toArray,List.append_toArray,List.nil_append,List.cons_append]
 gi_wp2
 go_ret
 exact ⟨by simp,rfl⟩

set_option maxRecDepth 100000 in
set_option maxHeartbeats 4000000 in
theorem parts1_in (l Bs s:Nat) (hs:s<64) (J Jx:List (PartN s)→World→Prop)
  (_hJd:∀ pre W m,J pre W→J pre (W.drewN m))
  (hY:∀ pre x W,J pre W→pre.length<(downL s).length→YieldAt Fence.wide 4 Tryz.prog l #[.int .u64 (x.1:Int)] W fun e W' =>
   (e=.returned (.bool true)∧J (pre ++ [x]) W'∧KeepL [Bs] W W') ∨ (e=.returned (.bool false)∧Jx (pre ++ [x]) W'))
  (W:World) (hbs:W.cell? ⟨Bs,0,none⟩=some (.int .u64 (s:Int))) (h0:J [] W) :
  CallsIn Fence.wide 5 Tryz.prog 100 #[.func (.yield l) #[] #[],.pointer (some ⟨Bs,0,none⟩)] W fun e W'=>(∃ v,e=.returned v) ∧
   ((∃ ys,PartN.vals ys=downL s∧J ys W') ∨ (∃ pre,PartN.vals pre <+: downL s∧pre ≠ []∧Jx pre W')):=by
 obtain ⟨hd0,hdn,hdk⟩:=down_at hs
 obtain ⟨N,hN⟩:∃ N,(downL s).length=N:=⟨_,rfl⟩
 rw [hN] at hdn hdk hY
 have HN:=Lib.hid hN
 have HDK:=Lib.hid hdk
 have HDN:=Lib.hid hdn
 refine callsIn_of_wp Tryz.func100 rfl trivial ?_ rfl
 simp only [Tryz.ntmps100,List.size_toArray,List.length_cons,List.length_nil,Nat.reduceAdd,Nat.reduceSub,Array.replicate_succ,Array.replicate_zero,List.push_toArray,List.append_toArray,List.nil_append,List.cons_append]
 have HD0:=Lib.hid hd0
 have hs0:(0:Int)≤(s:Int):=by omega
 clear hdk hdn hN hd0
 gi_wp2
 gi_loopw [3] (fun p wr=>∃ (k:Nat) (ys:List (PartN s)),k≤N∧p=.int .u64 (curP s k:Nat)∧Hid (PartN.vals ys=(downL s).take k∧J ys wr∧KeepL [Bs] W wr))
  (fun p _=>(intOf p).toNat)
 case atStart=>exact ⟨0,[],Nat.zero_le _,by rw [HD0.out],Lib.hid ⟨rfl,h0,KeepL.refl _ _⟩⟩
 case round =>
  obtain ⟨k,ys,hk,rfl,hs'⟩:=hrel
  have fs:wr.cell? ⟨Bs,0,none⟩=some (.int .u64 (s:Int)):=(hs'.out.2.2.cell (p:=⟨Bs,0,none⟩) (by simp)).trans hbs
  by_cases hlt:k<N
  ·obtain ⟨a1,a2,a3,a4⟩:=HDK.out k hlt
   have hmem:curP s k ∈ partsS s:=curP_mem (by rw [HN.out];exact hlt)
   obtain ⟨fn,tmps,assign,body,hy,hR⟩:=hY ys ⟨curP s k,hmem⟩ wr hs'.out.2.1 (by
    have h3:=congrArg List.length hs'.out.1
    rw [List.length_take,HN.out] at h3
    unfold PartN.vals at h3
    rw [List.length_map] at h3
    omega)
   dsimp only at hy hR
   have HTK:Hid (PartN.vals (ys ++ [⟨curP s k,hmem⟩])=(downL s).take (k+1)):=Lib.hid (by
    rw [take_down (by rw [HN.out];exact hlt),← hs'.out.1];simp [PartN.vals])
   have hR':=hR.mono (R':=fun e W'=>∃ b,e=.returned (.bool b)∧Hid ((b=true∧J (ys ++ [⟨curP s k,hmem⟩]) W'∧KeepL [Bs] wr W') ∨ (b=false∧Jx (ys ++ [⟨curP s k,hmem⟩]) W'))) (by
    rintro e W' (⟨rfl,h1,h2⟩ | ⟨rfl,h1⟩)
    ·exact ⟨true,rfl,Lib.hid (.inl ⟨rfl,h1,h2⟩)⟩
    ·exact ⟨false,rfl,Lib.hid (.inr ⟨rfl,h1⟩)⟩)
   have HBW:Hid (∀ W',KeepL [Bs] wr W'→KeepL [Bs] W W'):=Lib.hid fun W' hb=>hs'.out.2.2.trans hb
   clear hR hY
   obtain ⟨p,hp⟩:∃ p,curP s k=p:=⟨_,rfl⟩
   obtain ⟨p',hp'⟩:∃ p',curP s (k+1)=p':=⟨_,rfl⟩
   have HP':=Lib.hid hp'
   rw [hp] at a1 a2 a3 a4 hy ⊢
   rw [hp'] at a3 a4
   have b1:(0:Int)<(p:Int):=by omega
   have b2:(p:Int)<64:=by omega
   clear hp hp'
   gi_wp2
   refine hR'.mono ?_
   clear hR'
   rintro e W3 ⟨b,rfl,hb3⟩
   cases b with
   | true =>
    have hb4:J (ys ++ [⟨curP s k,hmem⟩]) W3∧KeepL [Bs] wr W3:=by
     rcases hb3.out with ⟨_,h3,h4⟩ | ⟨h3,_⟩
     ·exact ⟨h3,h4⟩
     ·cases h3
    have fs3:W3.cell? ⟨Bs,0,none⟩=some (.int .u64 (s:Int)):=(hb4.2.cell (p:=⟨Bs,0,none⟩) (by simp)).trans fs
    have HB4:=Lib.hid hb4
    clear hb4
    gi_wp2
    go_roundw
    case rel=>exact ⟨k+1,_,by omega,by rw [HP'.out];try rfl,Lib.hid ⟨HTK.out,HB4.out.1,HBW.out _ HB4.out.2⟩⟩
    case measure=>simp [intOf];omega
   | false =>
    gi_wp2
    refine bodyPost_ret (results_none rfl _ _ _) rfl ⟨⟨_,rfl⟩,.inr ⟨ys ++ [⟨curP s k,hmem⟩],?_,?_,?_⟩⟩
    ·rw [HTK.out];exact List.take_prefix _ _
    ·simp
    ·rcases hb3.out with ⟨h3,_⟩ | ⟨_,h3⟩
     ·cases h3
     ·exact h3
  ·obtain rfl:k=N:=by omega
   rw [HDN.out]
   gi_wp2
   go_end0
   refine ⟨⟨_,rfl⟩,.inl ⟨ys,?_,hs'.out.2.1⟩⟩
   rw [hs'.out.1,List.take_of_length_le (by rw [HN.out];exact Nat.le_refl _)]

/-- parts hands back a function that stops where its caller wants. -/
theorem parts_stops (Bs s:Nat) (hs:s<64) (w:World) (hs4:Bs<w.heap.size) (hbs:w.cell? ⟨Bs,0,none⟩=some (.int .u64 (s:Int))) :
  SeqStopsK Fence.wide 5 Tryz.prog 100 #[.pointer (some ⟨Bs,0,none⟩)] (fun x:PartN s=>#[Value.int .u64 (x.1:Int)]) (KeepL [Bs])
   (fun ys=>PartN.vals ys=downL s) (fun pre=>PartN.vals pre <+: downL s∧pre ≠ []) (downL s).length w:=fun l J Jx W hW hJ _ hY h0=>by
 have hk:KeepL [Bs] w W:=KeepL.below hW (by simp;exact hs4)
 refine (parts1_in l Bs s hs J Jx (fun pre W' m h=>hJ pre W' _ none h ⟨rfl,rfl,rfl,Nat.le_refl _,fun _ _ _=>rfl⟩ (fun r e=>by cases e)) hY W
  ((hk.cell (p:=⟨Bs,0,none⟩) (by simp)).trans hbs) h0).mono ?_
 rintro e W' ⟨he,⟨ys,h1,h2⟩ | ⟨pre,h1,h2,h3⟩⟩
 ·exact ⟨he,.inl ⟨ys,h1,h2⟩⟩
 ·exact ⟨he,.inr ⟨pre,⟨h1,h2⟩,h3⟩⟩
end Go.Proofs.YtcnjenlojnognaaGreat
/- What is proved: what next's walk leans on: loads and stores of several cells within a round; the list that grows in a box; a region that makes a launch. Conditions: those that each lemma states. -/
namespace Go.Proofs.YtcnjenlojnognaaGreat
open Go.RowKit Go.Shelf
attribute [local go_sem] Oper.semAt_some

/-- A load of several cells, within a round. -/
theorem wpLoadAtI {l₀ n:Nat} {P:Program} {ops:Array Oper} {rest:List Oper} {o:Oper} {a:Act} {w:World} {Q:Exit→Act→World→Prop} (hgd:o.guard=none) (ty:TypeId) (x:Operand) (ho:o.op=.load ty x)
  (g off:Nat) (hx:a.eval x=.pointer (some ⟨g,off,none⟩)) (S:Array Value) (d:TypeDesc) (hc:∀ j u,S[j]?=some u→w.cell? ⟨g,off+j,none⟩=some u)
  (hu:P.underlying ty=some d) (hd:(match d with | .struct _ | .array _ _=>true | _=>false)=true) (hi:(P.info? ty).map (·.size)=some S.size)
  (h:wpListIn (Fence.wide.inRound l₀) n P ops Q rest (a.put o.dst (.agg S)) w):wpListIn (Fence.wide.inRound l₀) n P ops Q (o :: rest) a w :=
 wpListIn_plain hgd fun K hK=>Oper.wpIn_of_wp l₀ n (by unfold noDefer;rw [ho]) (by
  unfold Oper.wp execOp
  simp only [ho,hx,Instr.loadAt,Instr.sureAddr,Sem.run_bind,Sem.run_pure,Result.andThen_ok,run_loadVar_at w g off ty S d hc hu hd hi]
  exact hK _ _ h)
/-- The like, guarded by what holds. -/
theorem wpLoadGI {l₀ n:Nat} {P:Program} {ops:Array Oper} {rest:List Oper} {o:Oper} {a:Act} {w:World} {Q:Exit→Act→World→Prop} (hgd:Region.wanted o (yielded ops a.tmps)=true) (ty:TypeId) (x:Operand) (ho:o.op=.load ty x)
  (g off:Nat) (hx:a.eval x=.pointer (some ⟨g,off,none⟩)) (S:Array Value) (d:TypeDesc) (hc:∀ j u,S[j]?=some u→w.cell? ⟨g,off+j,none⟩=some u)
  (hu:P.underlying ty=some d) (hd:(match d with | .struct _ | .array _ _=>true | _=>false)=true) (hi:(P.info? ty).map (·.size)=some S.size)
  (h:wpListIn (Fence.wide.inRound l₀) n P ops Q rest (a.put o.dst (.agg S)) w):wpListIn (Fence.wide.inRound l₀) n P ops Q (o :: rest) a w:=by
 rw [wpListIn,if_pos hgd]
 refine Oper.wpIn_of_wp l₀ n (by unfold noDefer;rw [ho]) ?_
 unfold Oper.wp execOp
 simp only [ho,hx,Instr.loadAt,Instr.sureAddr,Sem.run_bind,Sem.run_pure,Result.andThen_ok,run_loadVar_at w g off ty S d hc hu hd hi]
 exact h
/-- A store of several cells, within a round. -/
theorem wpStoreAtI {l₀ n:Nat} {P:Program} {ops:Array Oper} {rest:List Oper} {o:Oper} {a:Act} {w:World} {Q:Exit→Act→World→Prop} (hgd:o.guard=none) (hdst:o.dst=none) (ty:TypeId) (x y:Operand) (ho:o.op=.store ty x y)
  (g off:Nat) (hx:a.eval x=.pointer (some ⟨g,off,none⟩)) (S:Array Value) (hy:a.eval y=.agg S) (t:TypeId) (cs:Array Value) (hb:Bk w g t cs)
  (hl:off+S.size≤cs.size) (h1:∀ u ∈ S.toList,u.oneCell'=true) (hi:(P.info? ty).map (·.size)=some S.size)
  (h:∀ w',Bk w' g t (splA cs off S.toList)→Only g w w'→wpListIn (Fence.wide.inRound l₀) n P ops Q rest a w'):wpListIn (Fence.wide.inRound l₀) n P ops Q (o :: rest) a w :=
 wpListIn_plain hgd fun K hK=>Oper.wpIn_of_wp l₀ n (by unfold noDefer;rw [ho]) (by
  obtain ⟨w',r1,r2,r3⟩:=run_storeVar_at (P:=P) w g off t ty cs S hb hl h1 hi
  unfold Oper.wp execOp
  simp only [ho,hx,hy,Instr.storeAt,Instr.sureAddr,Sem.run_bind,Sem.run_pure,Result.andThen_ok,r1]
  have:=hK _ _ (h w' r2 r3)
  simpa [Oper.upon,hdst,Act.put] using this)

theorem KeepsOthers.below {w w':World} (h:Below w.heap.size w w'):KeepsOthers w w' :=
 ⟨h.size,fun k _ hk _=>(h.block k (Array.getElem?_eq_some_iff.1 hk).1).trans hk⟩
theorem KeepsOthers.only {w w':World} {g:Nat} {T:TypeId} {cs:Array Value} (h:Only g w w') (hb:Bk w g T cs):KeepsOthers w w' :=
 ⟨Nat.le_of_eq h.size.symm,fun k o hk ho=>by
  by_cases e:k=g
  ·subst e
   rw [show w.heap[k]?=_ from hb] at hk
   cases hk;cases ho
  ·exact (h.block k e).trans hk⟩
theorem keepL_b {Ks:List Nat} {w:World} (h:∀ x,x ∈ Ks→x<w.heap.size) (W:World) (l:Nat) (o o':Obj) (hl:w.heap.size≤l) (_:W.heap[l]?=some o) (_:o.isCells=false) (_:o.isWalk=false):KeepL Ks W (W.putObj l o') :=
 fun x hx=>World.putObj_heap_other (by have:=h x hx;omega)
/-- A turn of what is no cells leaves lists alone. -/
theorem IntsO.turn {w w':World} {B:Nat} {A:Option Addr} {l:List Int} {row:Option Nat} (h:IntsO w B A l) (hg:w.grownBy w' row) (hr:∀ r,row=some r→∃ o:Obj,w.heap[r]?=some o∧o.isCells=false):IntsO w' B A l :=
 ⟨h.1,fun hn=>by
  obtain ⟨b,cur,e,h1,h2,h3⟩:=h.2 hn
  refine ⟨b,cur,e,h1,(hg.block b h2.lt fun e=>?_).trans h2,h3⟩
  obtain ⟨o,ho,hc⟩:=hr b e.symm
  rw [show w.heap[b]?=_ from h2] at ho
  cases ho;cases hc⟩
theorem ownsRow_turn {w w':World} {B k n:Nat} {T:TypeId} {v:Value} {xs:List Value} {row:Option Nat} (h:w.ownsRow B T k v n xs) (hg:w.grownBy w' row) (hr:∀ r,row=some r→∃ o:Obj,w.heap[r]?=some o∧o.isCells=false):w'.ownsRow B T k v n xs:=by
 refine h.kept hg ?_
 rcases h.2 with ⟨rfl,_⟩ | ⟨g,cap,cur,rfl,_,hgb,_⟩
 ·exact Or.inl rfl
 ·refine Or.inr fun e=>?_
  have e2:row=some g:=e.symm
  obtain ⟨o,ho,hc⟩:=hr g e2
  rw [hgb] at ho
  cases ho;cases hc
theorem OwnL.turn {w w':World} {B:Nat} {v:Value} {l:List LaunchD} {P:Nat→Option Addr} {Q:Nat→Nat} {row:Option Nat} (h:OwnL w B v l P Q) (hg:w.grownBy w' row) (hr:∀ r,row=some r→∃ o:Obj,w.heap[r]?=some o∧o.isCells=false):OwnL w' B v l P Q :=
 ⟨ownsRow_turn h.row hg hr,fun i hi=>(h.ints i hi).turn hg hr⟩
/-- A turn of a block of another type leaves a list of launches alone. -/
theorem OwnL.other {w w':World} {B g:Nat} {v:Value} {l:List LaunchD} {P:Nat→Option Addr} {Q:Nat→Nat} {T:TypeId} {cs:Array Value} (h:OwnL w B v l P Q) (hb:Bk w g T cs) (hT:T ≠ 3) (hT2:T ≠ 52) (ho:Only g w w'):OwnL w' B v l P Q:=by
 have hg:w.grownBy w' (some g):=⟨ho.os,ho.tape,ho.output,Nat.le_of_eq ho.size.symm,fun k _ hne=>ho.block k fun e=>hne (by rw [e])⟩
 refine ⟨h.row.kept hg ?_,fun i hi=>(h.ints i hi).other hb hT fun k _ hne=>ho.block k hne⟩
 rcases h.row.2 with ⟨rfl,_⟩ | ⟨b,cap,cur,rfl,_,hgb,_⟩
 ·exact Or.inl rfl
 ·refine Or.inr fun e=>hT2 ?_
  have e2:b=g:=by simpa [Value.ownBlock] using e
  subst e2
  rw [show w.heap[b]?=_ from hb] at hgb
  injection hgb with hgb
  injection hgb with _ hgb _
/-- A guarded call, within a round. -/
theorem wpCallGI {l₀ n:Nat} {P:Program} {ops:Array Oper} {rest:List Oper} {o:Oper} {a:Act} {w:World} {Q:Exit→Act→World→Prop} (hw:Region.wanted o (yielded ops a.tmps)=true) (f:Nat) (xs:Array Operand) (ts:Array TypeId) (ho:o.op=.call { callee:=.value (.func f),args:=xs,argTypes:=ts }) (vs:Array Value) (hx:xs.map a.eval=vs)
  (eg:∀ args w,(callFunc f args).run P w=.ok (.enter f args) w) (h:Calls P f vs w fun e w'=>∃ v,e=.returned v∧wpListIn (Fence.wide.inRound l₀) n P ops Q rest (a.put o.dst v) w'):wpListIn (Fence.wide.inRound l₀) n P ops Q (o :: rest) a w:=by
 rw [wpListIn,if_pos hw]
 exact Oper.wpIn_of_wp l₀ n (by unfold noDefer;rw [ho]) (wpo_call f xs ts ho vs hx eg h)
/-- The list that grows, in its box; what a round has kept. -/
structure NxS (bx bs:Nat) (sv:Value) (W0 Wst:World) (l:List LaunchD) (w:World):Prop where
 bel:Below bx W0 w
 siz:W0.heap.size≤w.heap.size
 oth:KeepsOthers Wst w
 sk:Bk w bs 94 #[sv]
 own:∃ v P Q,Bk w bx 27 #[v]∧OwnL w bx v l P Q
theorem NxS.later {bx bs:Nat} {sv:Value} {W0 Wst w w':World} {l:List LaunchD} (h:NxS bx bs sv W0 Wst l w) (hbx:bx≤W0.heap.size) (hb:Below w.heap.size w w'):NxS bx bs sv W0 Wst l w':=by
 obtain ⟨v,P,Q,h1,h2⟩:=h.own
 exact ⟨h.bel.trans (hb.mono (Nat.le_trans hbx h.siz)),Nat.le_trans h.siz hb.size,h.oth.trans (KeepsOthers.below hb),h.sk.below hb h.sk.lt,v,P,Q,h1.below hb h1.lt,h2.later hb⟩
theorem keepL_bk {b:Nat} {T:TypeId} {cs:Array Value} {w w':World} (h:Bk w b T cs) (h':Bk w' b T cs):KeepL [b] w w':=fun x hx=>by
 simp at hx;subst hx;exact (show w'.heap[x]?=_ from h').trans (show w.heap[x]?=_ from h).symm
theorem NxS.push {bx bs:Nat} {sv:Value} {W0 Wst w w1:World} {l:List LaunchD} {v v':Value} {P:Nat→Option Addr} {Q:Nat→Nat} {x:LaunchD} {A:Option Addr} {cl:Nat} {tmp:Obj} (hb0:Below bx W0 w) (hsz:W0.heap.size≤w.heap.size) (hoth:KeepsOthers Wst w) (hsk:Bk w bs 94 #[sv])
  (hbx:bx≤W0.heap.size) (hbk:Bk w bx 27 #[v]) (h:OwnL w bx v l P Q) (hx:IntsO w bx A x.cargos)
  (hg:(w.alloc tmp).grownBy w1 v.ownBlock) (hown:w1.ownsRow bx 52 4 v' (l.length+1) (rowsL l.length 4 (rowP l P Q) ++ [.int .i64 x.day,.int .i64 x.craft,.int .i64 x.pad,.slice A x.cargos.length cl])) :
  NxS bx bs sv W0 Wst (l ++ [x]) (w1.setCell ⟨bx,0,none⟩ v')∧Bk w1 bx 27 #[v]∧∀ b T cs,T ≠ 52→T ≠ 27→Bk w b T cs→Bk (w1.setCell ⟨bx,0,none⟩ v') b T cs:=by
 have hal:Below w.heap.size w (w.alloc tmp):=(Below.refl _ w).alloc (Nat.le_refl _) _
 have h':=h.later hal
 have hp:=h'.push (hx.later hal) hg hown
 have hvb:∀ T,T ≠ 52→∀ b cs,Bk (w.alloc tmp) b T cs→Bk w1 b T cs:=fun T hT b cs hb=>by
  refine (hg.block b hb.lt fun e=>hT ?_).trans hb
  rcases h'.row.2 with ⟨rfl,_⟩ | ⟨g,cap,cur,rfl,_,hgb,_⟩
  ·simp [Value.ownBlock] at e
  ·have e2:b=g:=by simpa [Value.ownBlock] using e
   subst e2
   rw [show (w.alloc tmp).heap[b]?=_ from hb] at hgb
   injection hgb with hgb
   injection hgb with _ hgb _
 have hb1:Bk w1 bx 27 #[v]:=hvb _ (by decide) _ _ (hbk.alloc tmp)
 have hoc:KeepsOthers (w.alloc tmp) w1:=KeepsOthers.of_grownBy hg fun j o ej hj=>by
  rcases h'.row.2 with ⟨rfl,_⟩ | ⟨g,cap,cur,rfl,_,hgb,_⟩
  ·simp [Value.ownBlock] at ej
  ·have e2:g=j:=by simpa [Value.ownBlock] using ej
   subst e2
   rw [hgb] at hj
   cases hj;rfl
 have hof:∀ k,v.ownBlock=some k→bx≤k:=fun k ek=>(h'.row.lt k ek).1
 have hbl1:Below bx W0 w1:=(hb0.alloc (Nat.le_trans hbx hsz) tmp).grown hg (by simp;omega) hof
 have hs1:W0.heap.size≤w1.heap.size:=Nat.le_trans hsz (Nat.le_trans (by simp) hg.size)
 have hkt:∀ b T cs,T ≠ 52→T ≠ 27→Bk w b T cs→Bk (w1.setCell ⟨bx,0,none⟩ v') b T cs:=fun b T cs hT hT2 hb=>by
  have hk1:=hvb T hT b cs (hb.alloc tmp)
  refine ((Only.setCell w1 bx 0 v').block b fun e=>hT2 ?_).trans hk1
  subst e
  have hk1:w1.heap[b]?=_:=hk1
  rw [show w1.heap[b]?=_ from hb1] at hk1
  injection hk1 with hk1
  injection hk1 with _ hk1 _
  exact hk1.symm
 exact ⟨⟨hbl1.setCell (p:=⟨bx,0,none⟩) (Nat.le_refl _) v',by simpa using hs1,hoth.trans (((KeepsOthers.alloc w tmp).trans hoc).trans (KeepsOthers.setCell _ _ _)),hkt _ _ _ (by decide) (by decide) hsk,v',_,_,hb1.set 0 v',hp.other hb1 (by decide) (by decide) (Only.setCell w1 bx 0 v')⟩,hb1,hkt⟩
/-- A launch that is being made, in its box. -/
structure MkX (wo:World) (bx:Nat) (d ic ip:Int) (A:Option Addr) (n cl:Nat) (cg:List Int) (w':World):Prop where
 lo:wo.heap.size≤bx
 bel:Below wo.heap.size wo w'
 bk:Bk w' bx 52 (cellX d ic ip A n cl)
 ints:IntsO w' wo.heap.size A cg
theorem MkX.later {wo w' w2:World} {bx:Nat} {d ic ip:Int} {A:Option Addr} {n cl:Nat} {cg:List Int} (h:MkX wo bx d ic ip A n cl cg w') (hb:Below w'.heap.size w' w2):MkX wo bx d ic ip A n cl cg w2 :=
 ⟨h.lo,h.bel.trans (hb.mono h.bel.size),h.bk.below hb h.bk.lt,h.ints.later hb⟩
theorem MkX.set {wo w':World} {bx:Nat} {d ic ip:Int} {A:Option Addr} {n cl:Nat} {cg:List Int} (h:MkX wo bx d ic ip A n cl cg w') (d':Int):MkX wo bx d' ic ip A n cl cg (w'.setCell ⟨bx,0,none⟩ (.int .i64 d')) :=
 ⟨h.lo,h.bel.setCell (p:=⟨bx,0,none⟩) h.lo _,by have:=h.bk.set 0 (.int .i64 d');exact this,h.ints.other h.bk (by decide) fun k _ hne=>(Only.setCell w' bx 0 _).block k hne⟩
/-- What every operation of a region that makes a launch keeps. -/
def EX (j:Nat) (w1 w2:World):Prop:=(∀ B A m,IntsO w1 B A m→IntsO w2 B A m)∧(∀ g cs,Bk w1 g 52 cs→cs.size=4→∃ cs':Array Value,cs'.size=4∧Bk w2 g 52 cs')∧(j ≠ 19→Below w1.heap.size w1 w2)
theorem EX.below {j:Nat} {w1 w2:World} (h:Below w1.heap.size w1 w2):EX j w1 w2:=⟨fun _ _ _ hi=>hi.later h,fun _ cs hb hs=>⟨cs,hs,hb.below h hb.lt⟩,fun _=>h⟩
theorem EX.refl (j:Nat) (w:World):EX j w w:=EX.below (Below.refl _ _)
theorem EX.only {w1 w2:World} {g:Nat} {cs cs':Array Value} (h:Only g w1 w2) (hb:Bk w1 g 52 cs) (hb':Bk w2 g 52 cs') (hs:cs'.size=4):EX 19 w1 w2 :=
 ⟨fun _ _ _ hi=>hi.other hb (by decide) fun k _ hne=>h.block k hne,fun b ds hd hz=>by
  by_cases e:b=g
  ·subst e;exact ⟨cs',hs,hb'⟩
  ·exact ⟨ds,hz,(h.block b e).trans hd⟩,fun h=>absurd rfl h⟩
/-- The launches that come next, part by part. -/
def rowT (c:CampD) (f:FreeD) (last:LaunchD) (p i k:Nat):List LaunchD:=(List.range k).flatMap fun k=>tryB c f last p i k
def rowI (c:CampD) (f:FreeD) (last:LaunchD) (p i:Nat):List LaunchD:=(List.range i).flatMap fun i=>rowT c f last p i c.pads.length
def allP (c:CampD) (f:FreeD) (last:LaunchD) (ps:List Nat):List LaunchD:=ps.flatMap fun p=>rowI c f last p c.crafts.length
theorem rowT_succ (c:CampD) (f:FreeD) (last:LaunchD) (p i k:Nat):rowT c f last p i (k+1)=rowT c f last p i k ++ tryB c f last p i k:=by unfold rowT;rw [List.range_succ,List.flatMap_append];simp
theorem rowI_succ (c:CampD) (f:FreeD) (last:LaunchD) (p i:Nat):rowI c f last p (i+1)=rowI c f last p i ++ rowT c f last p i c.pads.length:=by unfold rowI;rw [List.range_succ,List.flatMap_append];simp
theorem allP_snoc (c:CampD) (f:FreeD) (last:LaunchD) (ps:List Nat) (p:Nat):allP c f last (ps ++ [p])=allP c f last ps ++ rowI c f last p c.crafts.length:=by unfold allP;rw [List.flatMap_append];simp
theorem tryB_len (c:CampD) (f:FreeD) (last:LaunchD) (p i k:Nat):(tryB c f last p i k).length≤1:=by
 unfold tryB;dsimp only;split <;> simp
theorem rowT_len (c:CampD) (f:FreeD) (last:LaunchD) (p i:Nat):∀ k,(rowT c f last p i k).length≤k
 | 0=>Nat.le_refl _
 | k+1=>by rw [rowT_succ,List.length_append];have:=rowT_len c f last p i k;have:=tryB_len c f last p i k;omega
theorem rowI_len (c:CampD) (f:FreeD) (last:LaunchD) (p:Nat):∀ i,(rowI c f last p i).length≤i * c.pads.length
 | 0=>by simp [rowI]
 | i+1=>by
  rw [rowI_succ,List.length_append,Nat.succ_mul]
  have:=rowI_len c f last p i
  have:=rowT_len c f last p i c.pads.length
  omega
theorem allP_len {c:CampD} (hc:campB c=true) (f:FreeD) (last:LaunchD) (ps:List Nat):(allP c f last ps).length≤ps.length * 6:=by
 induction ps with
 | nil=>simp [allP]
 | cons p ps ih =>
  have h1:=rowI_len c f last p c.crafts.length
  have h2:=camp_len hc
  have h3:c.crafts.length * c.pads.length≤3 * 2:=Nat.mul_le_mul (by omega) (by omega)
  have e:allP c f last (p :: ps)=rowI c f last p c.crafts.length ++ allP c f last ps:=by unfold allP;rw [List.flatMap_cons]
  rw [e,List.length_append,List.length_cons]
  omega
theorem nextB_all (c:CampD) (f:FreeD) (last:LaunchD) (s:Nat):nextB c f last s=sortL (allP c f last (downL s)):=by
 unfold nextB
 refine (sortL_eq ?_ (sortL_sorted _))
 refine (sortL_perm _).trans ?_
 exact List.Perm.flatMap_right _ (List.reverse_perm (partsS s)).symm
end Go.Proofs.YtcnjenlojnognaaGreat
/- What is proved: a contract of campaign.next. Conditions: the campaign is valid, the set is of its cargos; the lists lie in memory. -/
namespace Go.Proofs.YtcnjenlojnognaaGreat
open Go.RowKit Go.Shelf
attribute [local go_sem] Oper.semAt_some

theorem und_craft:Tryz.prog.underlying 46=some (.struct (match Tryz.prog.underlying 46 with | some (.struct f)=>f | _=>#[])):=by kernel_rfl
theorem info_craft:(Tryz.prog.info? 46).map (·.size)=some 4:=by kernel_rfl
theorem wpo_buildL {P:Program} {o:Oper} {a:Act} {w:World} {K:Act→World→Prop} {Q:Exit→Act→World→Prop} (t:TypeId) (parts:Array (Nat × Operand)) (ho:o.op=.build t parts) (l:List (Nat × Value)) (cs:Array Value) (hev:(parts.map fun (i,x)=>(i,a.eval x)).toList=l) (hb:P.built t l=some cs)
  (h:K (a.put o.dst (.agg cs)) w):o.wp P a w K Q :=
 wp_build t parts ho (by rw [hev,hb];rfl) (by rw [hev,hb];exact h)
theorem built_launch (d i k:Int) (A:Option Addr) (n cl:Nat):Tryz.prog.built 52 [(0,.int .i64 d),(1,.int .i64 i),(2,.int .i64 k),(3,.slice A n cl)]=some (cellX d i k A n cl):=by kernel_rfl
theorem info_cellX (d i k:Int) (A:Option Addr) (n cl:Nat):(Tryz.prog.info? 52).map (·.size)=some (cellX d i k A n cl).size:=info_launch
theorem info_launchA (x:LaunchD) (A:Option Addr) (cl:Nat):(Tryz.prog.info? 52).map (·.size)=some (launchA x A cl).size:=info_launch
theorem cellX_one (d i k:Int) (A:Option Addr) (n cl:Nat):∀ u ∈ (cellX d i k A n cl).toList,u.oneCell'=true:=by intro u hu;simp [cellX] at hu;rcases hu with rfl | rfl | rfl | rfl <;> rfl
theorem splA_four (cs S:Array Value) (h:cs.size=4) (hS:S.size=4):splA cs 0 S.toList=S:=by
 apply Array.ext_getElem?
 intro i
 have hl:S.toList.length=4:=hS
 rw [splA_get _ _ _ _ (by rw [hl,h];omega)]
 by_cases hi:i<4
 ·rw [if_pos ⟨Nat.zero_le _,by rw [hl];omega⟩];simp
 ·rw [if_neg (by rw [hl];omega),Array.getElem?_eq_none (by omega),Array.getElem?_eq_none (by omega)]
/-- What the region that makes a launch has left. -/
def RX (wo:World) (d0 i k:Int) (nb:Nat) (cg:List Int) (ix:Nat) (u:Value) (d:Nat→Value) (w1:World):Prop :=
 (ix=16→∃ A n,u=.slice A nb n∧nb≤n∧IntsO w1 wo.heap.size A cg)∧(ix=17→∃ A n,u=.agg (cellX d0 i k A nb n)∧nb≤n∧IntsO w1 wo.heap.size A cg) ∧
 (ix=18→∃ (g:Nat) (cs:Array Value),u=.pointer (some ⟨g,0,none⟩)∧wo.heap.size≤g∧cs.size=4∧Bk w1 g 52 cs)∧(ix=19→∃ g A n,d 18=.pointer (some ⟨g,0,none⟩)∧nb≤n∧MkX wo g d0 i k A nb n cg w1)
theorem RX.triv {wo w1:World} {d0 i k:Int} {nb:Nat} {cg:List Int} {ix:Nat} {u:Value} {d:Nat→Value} (h:ix<16):RX wo d0 i k nb cg ix u d w1:=⟨fun e=>by omega,fun e=>by omega,fun e=>by omega,fun e=>by omega⟩
theorem RX.keep {wo w1 w2:World} {d0 i k:Int} {nb:Nat} {cg:List Int} {ix j:Nat} {u:Value} {d:Nat→Value} (h:RX wo d0 i k nb cg ix u d w1) (hij:ix ≠ j) (he:EX j w1 w2):RX wo d0 i k nb cg ix u d w2 :=
  ⟨fun e=>by obtain ⟨A,n,a,b,c⟩:=h.1 e;exact ⟨A,n,a,b,he.1 _ _ _ c⟩,fun e=>by obtain ⟨A,n,a,b,c⟩:=h.2.1 e;exact ⟨A,n,a,b,he.1 _ _ _ c⟩,
   fun e=>by obtain ⟨g,cs,a,b,c,hd⟩:=h.2.2.1 e;obtain ⟨cs',e1,e2⟩:=he.2.1 g cs hd c;exact ⟨g,cs',a,b,e1,e2⟩,
   fun e=>by obtain ⟨g,A,n,a,b,c⟩:=h.2.2.2 e;exact ⟨g,A,n,a,b,c.later (he.2.2 (by omega))⟩⟩
theorem freeA_craft (f:FreeD) {i:Nat} (hi:i<3):(freeA f)[i]?=some (.int .i64 (f.crafts i)):=by
 rcases (show i=0 ∨ i=1 ∨ i=2 by omega) with rfl | rfl | rfl <;> rfl
theorem freeA_pad (f:FreeD) {k:Nat} (hk:k<2):(freeA f)[3+k]?=some (.int .i64 (f.pads k)):=by
 rcases (show k=0 ∨ k=1 by omega) with rfl | rfl <;> rfl
theorem freeA_flown (f:FreeD) {i:Nat} (hi:i<3):(freeA f)[5+i]?=some (.bool (f.flown i)):=by
 rcases (show i=0 ∨ i=1 ∨ i=2 by omega) with rfl | rfl | rfl <;> rfl
def craftA (x:CraftD):Array Value:=#[.string x.name,.int .i64 x.lift,.int .i64 x.ready,.int .i64 x.again]
theorem craftA_one (x:CraftD):∀ u ∈ (craftA x).toList,u.oneCell'=true:=by intro u hu;simp [craftA] at hu;rcases hu with rfl | rfl | rfl | rfl <;> rfl
def zeroCr:Array Value:=#[.string ByteArray.empty,.int .i64 0,.int .i64 0,.int .i64 0]
theorem part_lt {s p:Nat} (h:p ∈ partsS s):p<64∧p &&& s=p:=by
 unfold partsS at h
 rw [List.mem_filter,List.mem_range,Bool.and_eq_true,decide_eq_true_eq,decide_eq_true_eq] at h
 exact ⟨h.1,h.2.2⟩
theorem part_bits {s p n:Nat} (h:p ∈ partsS s) (hs:s<2 ^ n) {x:Int} (hx:x ∈ bitsL p):∃ m:Nat,x=(m:Int)∧m<n:=by
 obtain ⟨_,h2⟩:=part_lt h
 unfold bitsL at hx
 obtain ⟨m,hm,rfl⟩:=List.mem_map.1 hx
 rw [List.mem_filter] at hm
 refine ⟨m,rfl,?_⟩
 rcases Nat.lt_or_ge m n with h3 | h3
 ·exact h3
 ·have h4:p.testBit m=true:=hm.2
  rw [← h2,Nat.testBit_and,Nat.testBit_lt_two_pow (Nat.lt_of_lt_of_le hs (Nat.pow_le_pow_right (by omega) h3)),Bool.and_false] at h4
  cases h4
theorem if_max (a b:Int):(if b > a then b else a)=max a b:=by rw [Int.max_def];split <;> split <;> omega
/-- The day, behind m of the cargos. -/
def soonM (c:CampD) (f:FreeD) (ld:Int) (i k:Nat) (l:List Int) (m:Nat):Int:=soonB c f ld i k (l.take m)
theorem soonM_succ (c:CampD) (f:FreeD) (ld:Int) (i k:Nat) (l:List Int) (m:Nat) (hm:m<l.length):soonM c f ld i k l (m+1)=max (soonM c f ld i k l m) (c.cargo (numI l m)).frm:=by
 unfold soonM soonB
 rw [List.take_add_one,List.foldl_append,List.getElem?_eq_getElem hm]
 have:numI l m=l[m]:=by unfold numI;rw [List.getD_eq_getElem?_getD,List.getElem?_eq_getElem hm];rfl
 rw [this];rfl
theorem soonM_end (c:CampD) (f:FreeD) (ld:Int) (i k:Nat) (l:List Int):soonM c f ld i k l l.length=soonB c f ld i k l:=by unfold soonM;rw [List.take_of_length_le (Nat.le_refl _)]
theorem ownFrom_bk {β:Type} {B b:Nat} {t:TypeId} {f:β→Array Value}:OwnFrom B (fun s W=>Bk W b t (f s)):=fun s X Y row hs hg hrow =>
 (hg.block b hs.lt (fun e=>by obtain ⟨_,o,ho,hc⟩:=hrow b e.symm;rw [show X.heap[b]?=_ from hs] at ho;cases ho;cases hc)).trans hs
theorem RowsO.turn {w w':World} {B g:Nat} {cur:Array Value} {l:List LaunchD} {P:Nat→Option Addr} {Q:Nat→Nat} {row:Option Nat} (h:RowsO w B g cur l P Q) (hg:w.grownBy w' row) (hr:∀ r,row=some r→∃ o:Obj,w.heap[r]?=some o∧o.isCells=false):RowsO w' B g cur l P Q :=
 ⟨h.lo,(hg.block g h.bk.lt fun e=>by
  obtain ⟨o,ho,hc⟩:=hr g e.symm
  have h1:w.heap[g]?=_:=h.bk
  rw [h1] at ho
  cases ho;cases hc).trans h.bk,h.row,fun i hi=>(h.ints i hi).turn hg hr⟩
theorem RowsO.mono {w:World} {B B' g:Nat} {cur:Array Value} {l:List LaunchD} {P:Nat→Option Addr} {Q:Nat→Nat} (h:RowsO w B g cur l P Q) (hb:B'≤B):RowsO w B' g cur l P Q :=
 ⟨by have:=h.lo;omega,h.bk,h.row,fun i hi=>(h.ints i hi).mono hb⟩
/-- A list of launches that a call has made. -/
def LsPost (l:List LaunchD) (w:World) (e:Ending) (w':World):Prop:=∃ A c',e=.returned (.slice A l.length c')∧l.length≤c'∧PlanO w' w.heap.size A l∧Below w.heap.size w w'
set_option maxRecDepth 100000 in
set_option maxHeartbeats 16000000 in
theorem next_any (w:World) (V:CV) (c:CampD) (h:CampAt w w.heap.size V c) (hc:campB c=true) (f:FreeD) (last:LaunchD) (Al:Option Addr) (cl:Nat) (hl:IntsAt w w.heap.size Al last.cargos) (s:Nat) (hs:s<2 ^ c.cargos.length) :
  Calls Tryz.prog 134 #[.agg (campA V c),.agg (freeA f),.agg (launchA last Al cl),.int .u64 (s:Int)] w (LsPost (nextB c f last s) w):=by
 have hlen:=camp_len hc
 have hs64:s<64:=Nat.lt_of_lt_of_le hs (Nat.pow_le_pow_right (by omega) (by omega:c.cargos.length≤6))
 obtain ⟨qb,hqb⟩:∃ qb,w.heap.size=qb:=⟨_,rfl⟩
 obtain ⟨W0,hW0⟩:∃ W0,((((w.alloc (.cells (campA V c) 26)).alloc (.cells (freeA f) 151)).alloc (.cells (launchA last Al cl) 52)).alloc (.cells #[.slice none 0 0] 27)).alloc (.cells #[.int .u64 (s:Int)] 94)=W0:=⟨_,rfl⟩
 have hb0:Below w.heap.size w W0:=by rw [← hW0];exact (((((Below.refl _ w).alloc (Nat.le_refl _) _).alloc (by simp) _).alloc (by simp;omega) _).alloc (by simp;omega) _).alloc (by simp;omega) _
 have HB0:Hid (Below qb w W0):=Lib.hid (by rw [← hqb];exact hb0)
 have HKC:Hid (Bk W0 qb 26 (campA V c)):=Lib.hid (by rw [← hW0,← hqb];exact ((((Bk.new _ _ _).alloc _).alloc _).alloc _).alloc _)
 have HKF:Hid (Bk W0 (qb+1) 151 (freeA f)):=Lib.hid (by rw [← hW0,← hqb];exact (((Bk.newAt _ _ _ _ (by simp)).alloc _).alloc _).alloc _)
 have HKL:Hid (Bk W0 (qb+1+1) 52 (launchA last Al cl)):=Lib.hid (by rw [← hW0,← hqb];exact ((Bk.newAt _ _ _ _ (by simp)).alloc _).alloc _)
 have HKR:Hid (Bk W0 (qb+1+1+1) 27 #[.slice none 0 0]):=Lib.hid (by rw [← hW0,← hqb];exact (Bk.newAt _ _ _ _ (by simp)).alloc _)
 have HKS:Hid (Bk W0 (qb+1+1+1+1) 94 #[.int .u64 (s:Int)]):=Lib.hid (by rw [← hW0,← hqb];exact Bk.newAt _ _ _ _ (by simp))
 have hsz0:W0.heap.size=qb+5:=by rw [← hW0,← hqb];simp
 have HCA:=Lib.hid (h.later hb0)
 have HLA:Hid (IntsAt W0 W0.heap.size Al last.cargos):=Lib.hid ((Sl.below hl hb0).mono hb0.size)
 obtain ⟨nc,hnc⟩:∃ nc,c.crafts.length=nc:=⟨_,rfl⟩
 obtain ⟨np,hnp⟩:∃ np,c.pads.length=np:=⟨_,rfl⟩
 obtain ⟨ng,hng⟩:∃ ng,c.cargos.length=ng:=⟨_,rfl⟩
 have HNC:=Lib.hid hnc
 have HNP:=Lib.hid hnp
 have HNG:=Lib.hid hng
 have HCC:=Lib.hid hc
 have hnc3:nc≤3:=by omega
 have hnp2:np≤2:=by omega
 have hng6:ng≤6:=by omega
 have HS:Hid (s<2 ^ ng):=Lib.hid (by rw [← hng];exact hs)
 have HSTOP:=Lib.hid (parts_stops (qb+1+1+1+1) s hs64 W0 (by omega) (HKS.out.cell 0))
 have HKB:Hid (∀ x,x ∈ [qb+1+1+1+1]→x<W0.heap.size):=Lib.hid (by simp;omega)
 obtain ⟨PQ,hPQ⟩:∃ Q,LsPost (nextB c f last s) w=Q:=⟨_,rfl⟩
 have HFIN:Hid (∀ (A:Option Addr) (n c':Nat) (w':World),(nextB c f last s).length=n→n≤c'→PlanO w' qb A (nextB c f last s)→Below qb w w'→PQ (.returned (.slice A n c')) w'):=Lib.hid fun A n c' w' h0 h1 h2 h3=>by
  subst h0;rw [← hPQ];exact ⟨A,c',rfl,h1,by rw [hqb];exact h2,by rw [hqb];exact h3⟩
 have HDL:Hid ((downL s).length≤63):=Lib.hid (by
  unfold downL partsS
  rw [List.length_reverse]
  have h1:((List.range 64).filter fun p=>decide (p ≠ 0) && decide (p &&& s=p))=((List.range' 1 63).filter fun p=>decide (p ≠ 0) && decide (p &&& s=p)):=by
   rw [show List.range 64=0 :: List.range' 1 63 from by decide,List.filter_cons_of_neg (by simp)]
  rw [h1]
  exact Nat.le_trans (List.length_filter_le _ _) (by simp))
 have HCW:Hid (∀ w1,Below (qb+1+1+1) W0 w1→CampAt w1 qb V c):=Lib.hid fun w1 hb=>by
  have h1:CampAt W0 qb V c:=by rw [← hqb];exact h.below hb0
  exact h1.below (hb.mono (by omega))
 have HLW:Hid (∀ w1,Below (qb+1+1+1) W0 w1→IntsAt w1 qb Al last.cargos):=Lib.hid fun w1 hb=>by
  have h1:IntsAt W0 qb Al last.cargos:=by rw [← hqb];exact Sl.below hl hb0
  exact Sl.below h1 (hb.mono (by omega))
 obtain ⟨cb,co,hcA,hcb,hcc⟩:=(HCW.out W0 (Below.refl _ _)).crafts.2 (by omega)
 obtain ⟨gb,go,hgA,hgb,hgc⟩:=(HCW.out W0 (Below.refl _ _)).cargos.2 (by omega)
 have HCRA:Hid (∀ w1,Below (qb+1+1+1) W0 w1→∀ i,i<nc→∀ j u,(craftA (c.craftN i))[j]?=some u→w1.cell? ⟨cb,co+i * 4+j,none⟩=some u):=Lib.hid fun w1 hb i hi j u hj=>by
  rw [hb.cell (p:=⟨cb,co+i * 4+j,none⟩) (by show cb<_;omega)]
  have hj4:j<4:=(Array.getElem?_eq_some_iff.1 hj).1
  rw [hcc i (by rw [hnc];exact hi) j hj4,← hj]
  match j,hj4 with
  | 0,_=>rfl
  | 1,_=>rfl
  | 2,_=>rfl
  | 3,_=>rfl
 have HGF:Hid (∀ w1,Below (qb+1+1+1) W0 w1→∀ m,m<ng→w1.cell? ⟨gb,go+m * 6+3,none⟩=some (.int .i64 (c.cargoN m).frm)):=Lib.hid fun w1 hb m hm=>by
  rw [hb.cell (p:=⟨gb,go+m * 6+3,none⟩) (by show gb<_;omega)]
  exact hgc m (by rw [hng];exact hm) 3 (by omega)
 have HC:Hid (∀ w1,Below (qb+1+1+1) W0 w1→w1.cell? ⟨qb,0,none⟩=some (.slice (some ⟨cb,co,none⟩) nc V.cc)∧w1.cell? ⟨qb,1,none⟩=some (.slice V.pA np V.pc)∧w1.cell? ⟨qb,2,none⟩=some (.slice (some ⟨gb,go,none⟩) ng V.gc)∧w1.cell? ⟨qb+1+1,0,none⟩=some (.int .i64 last.day)):=Lib.hid fun w1 hb=>by
  have k:=HKC.out.below hb (by omega)
  rw [← hnc,← hnp,← hng,← hcA,← hgA]
  exact ⟨k.cell 0,k.cell 1,k.cell 2,(HKL.out.below hb (by omega)).cell 0⟩
 have HFR:Hid (∀ w1,Below (qb+1+1+1) W0 w1→Bk w1 (qb+1) 151 (freeA f)):=Lib.hid fun w1 hb=>HKF.out.below hb (by omega)
 obtain ⟨i0,hi0,hz0,hz1,hz2⟩:=info_parts infoL
 have HIL:=Lib.hid hi0
 have HZ0:=Lib.hid hz0
 have HZ1:=Lib.hid hz1
 have HZ2:=Lib.hid hz2
 clear hi0 hz0 hz1 hz2
 have hsi:(0:Int)≤(s:Int):=by omega
 have hsi2:(s:Int)<64:=by omega
 rw [hPQ]
 clear h hl hb0 hc hPQ hs hs64 hcA hgA hcc hgc
 refine (callsIn_wide (n:=6)).1 ?_
 refine callsIn_of_wp_marks Tryz.func134 rfl trivial ?_ rfl
 simp only [Tryz.ntmps134,List.size_toArray,List.length_cons,List.length_nil,Nat.reduceAdd,Nat.reduceSub,Array.replicate_succ,Array.replicate_zero,List.push_toArray,List.append_toArray,List.nil_append,List.cons_append]
 simp only [campA,freeA,launchA] at hW0 ⊢
 rw [hnc,hnp,hng] at hW0 ⊢
 gi_wp2_with fail
 refine ⟨trivial,?_⟩
 refine (parts_in _ _).mono ?_
 rintro e w' ⟨rfl,rfl⟩
 gi_wp2_with fail
 try rw [hW0]
 clear hW0 hqb
 obtain ⟨I,hI⟩:∃ I:List (PartN s)→World→Prop,(fun pre W=>Below (qb+1+1+1) W0 W∧Bk W (qb+1+1+1+1) 94 #[.int .u64 (s:Int)]∧∃ v P Q,Bk W (qb+1+1+1) 27 #[v]∧OwnL W (qb+1+1+1) v (allP c f last (PartN.vals pre)) P Q)=I:=⟨_,rfl⟩
 have HI:Hid (∀ pre W,I pre W ↔ (Below (qb+1+1+1) W0 W∧Bk W (qb+1+1+1+1) 94 #[.int .u64 (s:Int)]∧∃ v P Q,Bk W (qb+1+1+1) 27 #[v]∧OwnL W (qb+1+1+1) v (allP c f last (PartN.vals pre)) P Q)):=Lib.hid fun pre W=>by rw [← hI]
 have HOI:Hid (OwnFrom W0.heap.size I):=Lib.hid (by
  rw [← hI]
  refine OwnFrom.and (ownFrom_below (by omega) (by omega)) (OwnFrom.and (ownFrom_bk (f:=fun _=>_)) ?_)
  intro pre A B row hq hg hr
  obtain ⟨v,P,Q,h1,h2⟩:=hq
  exact ⟨v,P,Q,(hg.block _ h1.lt (fun e=>by obtain ⟨_,o,ho,hx⟩:=hr _ e.symm;rw [show A.heap[qb+1+1+1]?=_ from h1] at ho;cases ho;cases hx)).trans h1,h2.turn hg fun r e=>(hr r e).2⟩)
 have H0I:Hid (I [] W0):=Lib.hid ((HI.out _ _).2 ⟨Below.refl _ _,HKS.out,_,fun _=>none,fun _=>0,HKR.out,OwnL.nil _ _ _ _⟩)
 clear hI
 refine wpIn_rangeFunc_ownF (n:=6) rfl (by decide) (gf:=100) rfl trivial (enters_of Tryz.func100 (by kernel_rfl) rfl) HSTOP.out KeepL.trans (keepL_b HKB.out) (Below.refl _ _) (fun _=>rfl)
  I (fun _ _ _=>False) HOI.out (fun _ _ _ _ _ hs _ _=>hs) H0I.out ?a1 ?assign ?body ?done ?stop
 case assign =>
  intro l x W K hK
  gi_wp2
  exact hK
 case stop=>exact fun D c pre W _ _ h _=>h.elim
 case body =>
  intro l pre x W hIW hpl
  obtain ⟨p,hpm⟩:=x
  obtain ⟨hb,hsk,hown⟩:=(HI.out _ _).1 hIW
  obtain ⟨L0,hL0⟩:∃ L,allP c f last (PartN.vals pre)=L:=⟨_,rfl⟩
  rw [hL0] at hown
  have HL0:Hid (L0.length≤372):=Lib.hid (by
   rw [← hL0]
   have h1:=allP_len HCC.out f last (PartN.vals pre)
   have h2:(PartN.vals pre).length=pre.length:=by simp [PartN.vals]
   have h3:=HDL.out
   omega)
  have HN0:Hid (NxS (qb+1+1+1) (qb+1+1+1+1) (.int .u64 (s:Int)) W0 W L0 W):=Lib.hid ⟨hb,hb.size,KeepsOthers.refl _,hsk,hown⟩
  obtain ⟨PB,hPB⟩:∃ Q,ownPostK (KeepL [qb+1+1+1+1]) I (fun _ _ _=>False) (pre ++ [⟨p,hpm⟩]) W=Q:=⟨_,rfl⟩
  have HEND:Hid (∀ a W',NxS (qb+1+1+1) (qb+1+1+1+1) (.int .u64 (s:Int)) W0 W (L0 ++ rowI c f last p nc) W'→PB .normal a W'):=Lib.hid fun a W' h=>by
   rw [← hPB]
   exact ⟨h.oth,keepL_bk hsk h.sk,(HI.out _ _).2 ⟨h.bel,h.sk,by
    have e:PartN.vals (pre ++ [⟨p,hpm⟩])=PartN.vals pre ++ [p]:=by simp [PartN.vals]
    rw [e,allP_snoc,hL0,HNC.out];exact h.own⟩⟩
  rw [hPB]
  dsimp only
  have hp64:=(part_lt hpm).1
  have HPB:Hid (∀ x ∈ bitsL p,∃ m:Nat,x=(m:Int)∧m<ng):=Lib.hid fun x hx=>part_bits hpm HS.out hx
  have hpi:(0:Int)≤(p:Int):=by omega
  have hpi2:(p:Int)<64:=by omega
  obtain ⟨nb,hnb⟩:∃ nb,(bitsL p).length=nb:=⟨_,rfl⟩
  have HNB:=Lib.hid hnb
  have hnb6:nb≤6:=by rw [← hnb];unfold bitsL;rw [List.length_map];exact Nat.le_trans (List.length_filter_le _ _) (by simp)
  have HLI:Hid (∀ w1,Calls Tryz.prog 70 #[.int .u64 (p:Int)] w1 fun e w'=>∃ A n,e=.returned (.slice A nb n)∧nb≤n∧IntsO w' w1.heap.size A (bitsL p)∧Below w1.heap.size w1 w'):=Lib.hid fun w1 =>
   (list_any p hp64 w1).mono fun e w' ⟨A,n,h1,h2,h3,h4⟩=>⟨A,n,by rw [← hnb];exact h1,by rw [← hnb];exact h2,h3,h4⟩
  obtain ⟨hsizW,hWW⟩:W0.heap.size≤W.heap.size∧Below (qb+1+1+1) W0 W:=⟨hb.size,hb⟩
  obtain ⟨k0,k1,k2,_⟩:=HC.out W hWW
  clear hIW hb hsk hown hL0 hpl hnb hp64 hWW hPB hpm
  gi_wp2_with fail
  gi_loopw [23] (fun iv wr=>∃ i:Nat,i≤nc∧iv=.int .i64 i∧Hid (NxS (qb+1+1+1) (qb+1+1+1+1) (.int .u64 (s:Int)) W0 W (L0 ++ rowI c f last p i) wr)) (fun iv _=>nc - (intOf iv).toNat)
  case atStart=>exact ⟨0,Nat.zero_le _,rfl,Lib.hid (by rw [show rowI c f last p 0=[] from rfl,List.append_nil];exact HN0.out)⟩
  case round =>
   obtain ⟨wo,rfl⟩:∃ wo:World,wo=wr:=⟨_,rfl⟩
   obtain ⟨i,hi,rfl,hn⟩:=hrel
   have h0i:(0:Int)≤(i:Int):=by omega
   by_cases hlt:i<nc
   ·have hii:(i:Int)<(nc:Int):=by omega
    have HCR:Hid (∀ j u,(craftA (c.craftN i))[j]?=some u→wo.cell? ⟨cb,co+i * 4+j,none⟩=some u):=Lib.hid (HCRA.out wo hn.out.bel i hlt)
    obtain ⟨k0,k1,k2,_⟩:=HC.out wo hn.out.bel
    obtain ⟨Bc,hBc⟩:∃ Bc,wo.heap.size=Bc:=⟨_,rfl⟩
    have HKB1:Hid (Bk (wo.alloc (.cells zeroCr 46)) Bc 46 zeroCr):=Lib.hid (by rw [← hBc];exact Bk.new _ _ _)
    gi_upto_region 7 with (first | (refine wpLoadAtI rfl 46 _ rfl cb (co+i * 4) rfl (craftA (c.craftN i)) _ HCR.out und_craft rfl info_craft ?_) | (refine wpStoreAtI rfl rfl 46 _ _ rfl Bc 0 rfl (craftA (c.craftN i)) rfl 46 _ HKB1.out (by show 0+4≤4;omega) (craftA_one _) info_craft ?_;intro wf hkf hof))
    rw [splA_four _ _ rfl rfl] at hkf
    have hbf:Below wo.heap.size wo wf:=((Below.refl _ wo).alloc (Nat.le_refl _) _).trans (hof.below (by omega))
    have HN1:=Lib.hid (hn.out.later (by omega) hbf)
    have HKB2:=Lib.hid hkf
    have hBlt:Bc<wf.heap.size:=hkf.lt
    clear hkf hof hbf HKB1 hBc k0 k1 k2 HCR
    obtain ⟨k0,k1,k2,_⟩:=HC.out wf HN1.out.bel
    gi_wp2_with fail
    gi_loopw [31] (fun kv wr=>∃ k:Nat,k≤np∧kv=.int .i64 k∧Hid (NxS (qb+1+1+1) (qb+1+1+1+1) (.int .u64 (s:Int)) W0 W (L0 ++ rowI c f last p i ++ rowT c f last p i k) wr∧Bk wr Bc 46 (craftA (c.craftN i)))) (fun kv _=>np - (intOf kv).toNat)
    case atStart=>exact ⟨0,Nat.zero_le _,rfl,Lib.hid ⟨by rw [show rowT c f last p i 0=[] from rfl,List.append_nil];exact HN1.out,HKB2.out⟩⟩
    case round =>
     obtain ⟨wk,rfl⟩:∃ wk:World,wk=wr:=⟨_,rfl⟩
     obtain ⟨k,hk,rfl,hn2⟩:=hrel
     have h0k:(0:Int)≤(k:Int):=by omega
     by_cases hkn:k<np
     ·have hkk:(k:Int)<(np:Int):=by omega
      have HN2:=Lib.hid hn2.out.1
      have HKB3:=Lib.hid hn2.out.2
      clear hn2
      have hi3:(i:Int)<3:=by omega
      have hk2:(k:Int)<2:=by omega
      obtain ⟨fc,hfc⟩:∃ x,f.crafts i=x:=⟨_,rfl⟩
      obtain ⟨fp,hfp⟩:∃ x,f.pads k=x:=⟨_,rfl⟩
      obtain ⟨rd,hrd⟩:∃ x,(c.craftN i).ready=x:=⟨_,rfl⟩
      obtain ⟨ld,hld⟩:∃ x,last.day=x:=⟨_,rfl⟩
      obtain ⟨d0,hd0⟩:∃ x,max (max (max ld rd) fc) fp=x:=⟨_,rfl⟩
      have HD0:Hid ((if fp > (if fc > (if rd > ld then rd else ld) then fc else if rd > ld then rd else ld) then fp else if fc > (if rd > ld then rd else ld) then fc else if rd > ld then rd else ld)=d0):=Lib.hid (by simp only [if_max];exact hd0)
      have HSM:Hid (soonM c f last.day i k (bitsL p) 0=d0):=Lib.hid (by unfold soonM soonB;rw [List.take_zero,List.foldl_nil,craft_nat,hrd,hfc,hfp,hld,hd0])
      have HCE:Hid (∀ w1,Below wk.heap.size wk w1→w1.cell? ⟨qb+1+1,0,none⟩=some (.int .i64 ld)∧w1.cell? ⟨Bc,2,none⟩=some (.int .i64 rd)∧w1.cell? ⟨qb+1,i,none⟩=some (.int .i64 fc)∧w1.cell? ⟨qb+1,3+k,none⟩=some (.int .i64 fp)):=Lib.hid fun w1 hb=>by
       have hb0:Below (qb+1+1+1) W0 w1:=HN2.out.bel.trans (hb.mono (by have:=HN2.out.siz;omega))
       have hfr:=HFR.out w1 hb0
       refine ⟨by rw [← hld];exact (HC.out w1 hb0).2.2.2,?_,?_,?_⟩
       ·rw [(HKB3.out.below hb HKB3.out.lt).cell,← hrd];rfl
       ·rw [hfr.cell,← hfc];exact freeA_craft f (by omega)
       ·rw [hfr.cell,← hfp];exact freeA_pad f (by omega)
      clear hfc hfp hrd hld hd0
      gi_wp2_with fail
      refine wpi_region_steps l _ (by kernel_rfl) (by kernel_rfl) (by kernel_rfl) (fun w1=>Below wk.heap.size wk w1) (EX)
       (fun ix u d w1=>(match ix with
        | 0=>u=.pointer (some ⟨qb+1+1,0,none⟩)
        | 1=>u=.int .i64 ld
        | 2=>u=.pointer (some ⟨Bc,2,none⟩)
        | 3=>u=.int .i64 rd
        | 4=>u=.int .i64 (i:Int)
        | 5=>u=.pointer (some ⟨qb+1,0,none⟩)
        | 6=>u=.pointer (some ⟨qb+1,i,none⟩)
        | 7=>u=.int .i64 fc
        | 8=>u=.int .i64 (k:Int)
        | 9=>u=.pointer (some ⟨qb+1,3,none⟩)
        | 10=>u=.pointer (some ⟨qb+1,3+k,none⟩)
        | 11=>u=.int .i64 fp
        | 12=>u=.int .i64 d0
        | 13=>u=.int .i64 (i:Int)
        | 14=>u=.int .i64 (k:Int)
        | 15=>u=.int .u64 (p:Int)
        | 16=>True
        | 17=>True
        | 18=>True
        | _=>True)∧RX wk d0 i k nb (bitsL p) ix u d w1) (Below.refl _ _).drew (fun i j hij _ u d w1 w2 h _ he=>⟨h.1,h.2.keep hij he⟩) ?_ ?_
      ·refine ⟨?_,?_,?_,?_,?_,?_,?_,?_,?_,?_,?_,?_,?_,?_,?_,?_,?_,?_,?_,?_,trivial⟩
       ·intro a w1 vs K HJ HK HD HN kk
        have e6:=HK 6 (by decide)
        go_simp;exact kk _ _ (by simp) HJ (EX.refl _ _) ⟨rfl,RX.triv (by decide)⟩
       ·intro a w1 vs K HJ HK HD HN kk
        have e34:=(HD 0 _ 34 rfl rfl rfl).1.trans (HD 0 _ 34 rfl rfl rfl).2.1
        have ca:=(HCE.out w1 HJ).1
        go_simp;exact kk _ _ (by simp) HJ (EX.refl _ _) ⟨rfl,RX.triv (by decide)⟩
       ·intro a w1 vs K HJ HK HD HN kk
        have e12:=HK 12 (by decide)
        go_simp;exact kk _ _ (by simp) HJ (EX.refl _ _) ⟨rfl,RX.triv (by decide)⟩
       ·intro a w1 vs K HJ HK HD HN kk
        have e36:=(HD 2 _ 36 rfl rfl rfl).1.trans (HD 2 _ 36 rfl rfl rfl).2.1
        have ca:=(HCE.out w1 HJ).2.1
        go_simp;exact kk _ _ (by simp) HJ (EX.refl _ _) ⟨rfl,RX.triv (by decide)⟩
       ·intro a w1 vs K HJ HK HD HN kk
        have e11:=HK 11 (by decide)
        go_simp;exact kk _ _ (by simp) HJ (EX.refl _ _) ⟨rfl,RX.triv (by decide)⟩
       ·intro a w1 vs K HJ HK HD HN kk
        have e5:=HK 5 (by decide)
        go_simp;exact kk _ _ (by simp) HJ (EX.refl _ _) ⟨rfl,RX.triv (by decide)⟩
       ·intro a w1 vs K HJ HK HD HN kk
        have e39:=(HD 5 _ 39 rfl rfl rfl).1.trans (HD 5 _ 39 rfl rfl rfl).2.1
        have e38:=(HD 4 _ 38 rfl rfl rfl).1.trans (HD 4 _ 38 rfl rfl rfl).2.1
        have hb1:=h0i
        have hb2:=hi3
        go_simp;exact kk _ _ (by simp) HJ (EX.refl _ _) ⟨rfl,RX.triv (by decide)⟩
       ·intro a w1 vs K HJ HK HD HN kk
        have e40:=(HD 6 _ 40 rfl rfl rfl).1.trans (HD 6 _ 40 rfl rfl rfl).2.1
        have ca:=(HCE.out w1 HJ).2.2.1
        go_simp;exact kk _ _ (by simp) HJ (EX.refl _ _) ⟨rfl,RX.triv (by decide)⟩
       ·intro a w1 vs K HJ HK HD HN kk
        have e13:=HK 13 (by decide)
        go_simp;exact kk _ _ (by simp) HJ (EX.refl _ _) ⟨rfl,RX.triv (by decide)⟩
       ·intro a w1 vs K HJ HK HD HN kk
        have e5:=HK 5 (by decide)
        go_simp;exact kk _ _ (by simp) HJ (EX.refl _ _) ⟨rfl,RX.triv (by decide)⟩
       ·intro a w1 vs K HJ HK HD HN kk
        have e43:=(HD 9 _ 43 rfl rfl rfl).1.trans (HD 9 _ 43 rfl rfl rfl).2.1
        have e42:=(HD 8 _ 42 rfl rfl rfl).1.trans (HD 8 _ 42 rfl rfl rfl).2.1
        have hb1:=h0k
        have hb2:=hk2
        go_simp;exact kk _ _ (by simp) HJ (EX.refl _ _) ⟨rfl,RX.triv (by decide)⟩
       ·intro a w1 vs K HJ HK HD HN kk
        have e44:=(HD 10 _ 44 rfl rfl rfl).1.trans (HD 10 _ 44 rfl rfl rfl).2.1
        have ca:=(HCE.out w1 HJ).2.2.2
        go_simp;exact kk _ _ (by simp) HJ (EX.refl _ _) ⟨rfl,RX.triv (by decide)⟩
       ·intro a w1 vs K HJ HK HD HN kk
        have e35:=(HD 1 _ 35 rfl rfl rfl).1.trans (HD 1 _ 35 rfl rfl rfl).2.1
        have e37:=(HD 3 _ 37 rfl rfl rfl).1.trans (HD 3 _ 37 rfl rfl rfl).2.1
        have e41:=(HD 7 _ 41 rfl rfl rfl).1.trans (HD 7 _ 41 rfl rfl rfl).2.1
        have e45:=(HD 11 _ 45 rfl rfl rfl).1.trans (HD 11 _ 45 rfl rfl rfl).2.1
        have hq:=kk (.int .i64 d0) _ (by simp) HJ (EX.refl _ _) ⟨rfl,RX.triv (by decide)⟩
        rw [← HD0.out] at hq
        go_simp
        exact hq
       ·intro a w1 vs K HJ HK HD HN kk
        have e11:=HK 11 (by decide)
        go_simp;exact kk _ _ (by simp) HJ (EX.refl _ _) ⟨rfl,RX.triv (by decide)⟩
       ·intro a w1 vs K HJ HK HD HN kk
        have e13:=HK 13 (by decide)
        go_simp;exact kk _ _ (by simp) HJ (EX.refl _ _) ⟨rfl,RX.triv (by decide)⟩
       ·intro a w1 vs K HJ HK HD HN kk
        have e10:=HK 10 (by decide)
        go_simp;exact kk _ _ (by simp) HJ (EX.refl _ _) ⟨rfl,RX.triv (by decide)⟩
       ·intro a w1 vs K HJ HK HD HN kk
        have e49:=(HD 15 _ 49 rfl rfl rfl).1.trans (HD 15 _ 49 rfl rfl rfl).2.1
        exact wpo_call 70 _ _ rfl #[.int .u64 (p:Int)] (by simp [Act.eval,e49]) (fun args w=>by kernel_rfl)
         ((HLI.out w1).mono fun e w' h=>by
          obtain ⟨A,n,he,hn,hi1,hb⟩:=h
          have hi':=hi1.mono HJ.size
          exact ⟨_,he,kk _ _ (by simp) (HJ.trans (hb.mono HJ.size)) (EX.below hb) ⟨trivial,fun _=>⟨A,n,rfl,hn,hi'⟩,fun e=>absurd e (by decide),fun e=>absurd e (by decide),fun e=>absurd e (by decide)⟩⟩)
       ·intro a w1 vs K HJ HK HD HN kk
        have e46:=(HD 12 _ 46 rfl rfl rfl).1.trans (HD 12 _ 46 rfl rfl rfl).2.1
        have e47:=(HD 13 _ 47 rfl rfl rfl).1.trans (HD 13 _ 47 rfl rfl rfl).2.1
        have e48:=(HD 14 _ 48 rfl rfl rfl).1.trans (HD 14 _ 48 rfl rfl rfl).2.1
        obtain ⟨q16,r16⟩:=HD 16 _ 50 rfl rfl rfl
        obtain ⟨A,n,hu,hn,hi'⟩:=r16.2.1 rfl
        have e50:=q16.trans hu
        exact wpo_buildL 52 _ rfl [(0,.int .i64 d0),(1,.int .i64 (i:Int)),(2,.int .i64 (k:Int)),(3,.slice A nb n)] _ (by simp [Act.eval,e46,e47,e48,e50]) (built_launch _ _ _ _ _ _) (kk _ _ (by simp) HJ (EX.refl _ _) ⟨trivial,fun e=>absurd e (by decide),fun _=>⟨A,n,rfl,hn,hi'⟩,fun e=>absurd e (by decide),fun e=>absurd e (by decide)⟩)
       ·intro a w1 vs K HJ HK HD HN kk
        go_simp
        exact kk _ _ (by simp) (HJ.alloc HJ.size _) (EX.below ((Below.refl _ _).alloc (Nat.le_refl _) _)) ⟨trivial,fun e=>absurd e (by decide),fun e=>absurd e (by decide),fun _=>⟨w1.heap.size,_,rfl,HJ.size,rfl,Bk.new _ _ _⟩,fun e=>absurd e (by decide)⟩
       ·intro a w1 vs K HJ HK HD HN kk
        obtain ⟨q17,r17⟩:=HD 17 _ 51 rfl rfl rfl
        obtain ⟨A,n,hu,hn,hi'⟩:=r17.2.2.1 rfl
        have e51:=q17.trans hu
        obtain ⟨q18,r18⟩:=HD 18 _ 14 rfl rfl rfl
        obtain ⟨g,cs,hg,hlo,hcs,hbk⟩:=r18.2.2.2.1 rfl
        have e14:=q18.trans hg
        exact wpo_storeS 52 _ _ rfl rfl g 0 (by simpa [Act.eval] using e14) (cellX d0 i k A nb n) (by simpa [Act.eval] using e51) 52 cs hbk (by rw [hcs];show 0+4≤4;omega) (cellX_one _ _ _ _ _ _) (info_cellX _ _ _ _ _ _) (fun w' hk' ho=>by
         rw [splA_four cs _ hcs rfl] at hk'
         have hbl:=HJ.trans (ho.below hlo)
         exact kk _ _ (by simp) hbl (EX.only ho hbk hk' rfl) ⟨trivial,fun e=>absurd e (by decide),fun e=>absurd e (by decide),fun e=>absurd e (by decide),fun _=>⟨g,A,n,hg,hn,hlo,hbl,hk',hi'.other hbk (by decide) fun _ _ hne=>ho.block _ hne⟩⟩)
      ·intro vs W3 hJ hrr
       obtain ⟨g,A,n,hg,hn,hmk⟩:=(hrr 19 _ rfl).2.2.2.2 rfl
       have e18:vs 18=.pointer (some ⟨g,0,none⟩):=hg
       have HMK:=Lib.hid hmk
       have x3:W3.cell? ⟨g,3,none⟩=some (.slice A nb n):=hmk.bk.cell 3
       clear hg hmk hrr hJ
       simp only [putAll,Act.put,List.setIfInBounds_toArray,List.set_cons_zero,List.set_cons_succ]
       rw [e18]
       clear e18
       gi_wp2_with fail
       gi_loopw [55] (fun mv wr=>∃ m:Nat,m≤nb∧mv=.int .i64 m∧Hid (MkX wk g (soonM c f last.day i k (bitsL p) m) i k A nb n (bitsL p) wr)) (fun mv _=>nb - (intOf mv).toNat)
       case atStart=>exact ⟨0,Nat.zero_le _,rfl,Lib.hid (by rw [HSM.out];exact HMK.out)⟩
       case round =>
        obtain ⟨wm,rfl⟩:∃ wm:World,wm=wr:=⟨_,rfl⟩
        obtain ⟨m,hm,rfl,hx⟩:=hrel
        have h0m:(0:Int)≤(m:Int):=by omega
        by_cases hmn:m<nb
        ·have hmi:(m:Int)<(nb:Int):=by omega
         obtain ⟨ga,cur,hA,hlo,hbk,hcur⟩:=hx.out.ints.2 (by rw [HNB.out];omega)
         subst hA
         have he:wm.cell? ⟨ga,m,none⟩=some (.int .i64 (numI (bitsL p) m)):=by
          rw [hbk.cell]
          have:=hcur m (by rw [HNB.out];exact hmn) 0 (by omega)
          simpa using this
         have hmem:numI (bitsL p) m ∈ bitsL p:=by
          unfold numI
          rw [List.getD_eq_getElem?_getD,List.getElem?_eq_getElem (by rw [HNB.out];exact hmn),Option.getD_some]
          exact List.getElem_mem _
         obtain ⟨mm,hmm,hml⟩:=HPB.out _ hmem
         rw [hmm] at he
         obtain ⟨d,hd⟩:∃ x,soonM c f last.day i k (bitsL p) m=x:=⟨_,rfl⟩
         obtain ⟨fr,hfr⟩:∃ x,(c.cargoN mm).frm=x:=⟨_,rfl⟩
         obtain ⟨d',hd'⟩:∃ x,max d fr=x:=⟨_,rfl⟩
         have HD1:Hid (max d fr=d'):=Lib.hid hd'
         have HSN:Hid (soonM c f last.day i k (bitsL p) (m+1)=d'):=Lib.hid (by rw [soonM_succ _ _ _ _ _ _ _ (by rw [HNB.out];exact hmn),hd,hmm,cargo_nat,hfr,hd'])
         have HX:Hid (MkX wk g d i k (some ⟨ga,0,none⟩) nb n (bitsL p) wm):=Lib.hid (by rw [← hd];exact hx.out)
         have HCG:Hid (∀ w1,Below wk.heap.size wk w1→w1.cell? ⟨qb,2,none⟩=some (.slice (some ⟨gb,go,none⟩) ng V.gc)∧w1.cell? ⟨gb,go+mm * 6+3,none⟩=some (.int .i64 fr)):=Lib.hid fun w1 hb=>by
          have hb0:Below (qb+1+1+1) W0 w1:=HN2.out.bel.trans (hb.mono (by have:=HN2.out.siz;omega))
          exact ⟨(HC.out w1 hb0).2.2.1,by rw [← hfr];exact HGF.out w1 hb0 mm hml⟩
         have h0mm:(0:Int)≤(mm:Int):=by omega
         have hmg:(mm:Int)<(ng:Int):=by omega
         clear hx hbk hcur hmem hmm hml hd hfr hd' x3
         gi_wp2_with fail
         refine wpi_region_stepsM l _ (by kernel_rfl) (by kernel_rfl) (by kernel_rfl) 10 (by decide) (fun bq w1=>if bq=true then MkX wk g d' i k (some ⟨ga,0,none⟩) nb n (bitsL p) w1 else MkX wk g d i k (some ⟨ga,0,none⟩) nb n (bitsL p) w1) (fun _ _ _=>True)
          (fun ix u _ _=>match ix with
           | 0=>u=.pointer (some ⟨g,0,none⟩)
           | 1=>u=.int .i64 d
           | 2=>u=.pointer (some ⟨qb,2,none⟩)
           | 3=>u=.slice (some ⟨gb,go,none⟩) ng V.gc
           | 4=>u=.int .i64 (mm:Int)
           | 5=>u=.pointer (some ⟨gb,go+mm * 6,none⟩)
           | 6=>u=.pointer (some ⟨gb,go+mm * 6+3,none⟩)
           | 7=>u=.int .i64 fr
           | 8=>u=.int .i64 d'
           | 9=>u=.pointer (some ⟨g,0,none⟩)
           | _=>True) (HX.out.later (Below.refl _ _).drew) (fun _ _ _ _ _ _ _ _ h _=>h) ?_ ?_
         ·refine ⟨?_,?_,?_,?_,?_,?_,?_,?_,?_,?_,?_,trivial⟩
          ·intro a w1 vs K bq Hb HJ HK HD HN kk
           obtain rfl:bq=false:=by cases bq with | false=>rfl | true=>exact absurd (Hb rfl).2 (by decide)
           have HJ':MkX wk g d i k (some ⟨ga,0,none⟩) nb n (bitsL p) w1:=HJ
           have e14:=HK 14 (by decide)
           go_simp;exact kk _ _ (by simp) HJ trivial rfl
          ·intro a w1 vs K bq Hb HJ HK HD HN kk
           obtain rfl:bq=false:=by cases bq with | false=>rfl | true=>exact absurd (Hb rfl).2 (by decide)
           have HJ':MkX wk g d i k (some ⟨ga,0,none⟩) nb n (bitsL p) w1:=HJ
           have e59:=hdE (HD 0 _ 59 rfl rfl rfl)
           have ca:w1.cell? ⟨g,0,none⟩=some (.int .i64 d):=HJ'.bk.cell 0
           go_simp;exact kk _ _ (by simp) HJ trivial rfl
          ·intro a w1 vs K bq Hb HJ HK HD HN kk
           obtain rfl:bq=false:=by cases bq with | false=>rfl | true=>exact absurd (Hb rfl).2 (by decide)
           have HJ':MkX wk g d i k (some ⟨ga,0,none⟩) nb n (bitsL p) w1:=HJ
           have e4:=HK 4 (by decide)
           go_simp;exact kk _ _ (by simp) HJ trivial rfl
          ·intro a w1 vs K bq Hb HJ HK HD HN kk
           obtain rfl:bq=false:=by cases bq with | false=>rfl | true=>exact absurd (Hb rfl).2 (by decide)
           have HJ':MkX wk g d i k (some ⟨ga,0,none⟩) nb n (bitsL p) w1:=HJ
           have e61:=hdE (HD 2 _ 61 rfl rfl rfl)
           have ca:=(HCG.out w1 HJ'.bel).1
           go_simp;exact kk _ _ (by simp) HJ trivial rfl
          ·intro a w1 vs K bq Hb HJ HK HD HN kk
           obtain rfl:bq=false:=by cases bq with | false=>rfl | true=>exact absurd (Hb rfl).2 (by decide)
           have HJ':MkX wk g d i k (some ⟨ga,0,none⟩) nb n (bitsL p) w1:=HJ
           have e16:=HK 16 (by decide)
           go_simp;exact kk _ _ (by simp) HJ trivial rfl
          ·intro a w1 vs K bq Hb HJ HK HD HN kk
           obtain rfl:bq=false:=by cases bq with | false=>rfl | true=>exact absurd (Hb rfl).2 (by decide)
           have HJ':MkX wk g d i k (some ⟨ga,0,none⟩) nb n (bitsL p) w1:=HJ
           have e62:=hdE (HD 3 _ 62 rfl rfl rfl)
           have e63:=hdE (HD 4 _ 63 rfl rfl rfl)
           have hb1:=h0mm
           have hb2:=hmg
           go_simp;exact kk _ _ (by simp) HJ trivial rfl
          ·intro a w1 vs K bq Hb HJ HK HD HN kk
           obtain rfl:bq=false:=by cases bq with | false=>rfl | true=>exact absurd (Hb rfl).2 (by decide)
           have HJ':MkX wk g d i k (some ⟨ga,0,none⟩) nb n (bitsL p) w1:=HJ
           have e64:=hdE (HD 5 _ 64 rfl rfl rfl)
           go_simp;exact kk _ _ (by simp) HJ trivial rfl
          ·intro a w1 vs K bq Hb HJ HK HD HN kk
           obtain rfl:bq=false:=by cases bq with | false=>rfl | true=>exact absurd (Hb rfl).2 (by decide)
           have HJ':MkX wk g d i k (some ⟨ga,0,none⟩) nb n (bitsL p) w1:=HJ
           have e65:=hdE (HD 6 _ 65 rfl rfl rfl)
           have ca:=(HCG.out w1 HJ'.bel).2
           go_simp;exact kk _ _ (by simp) HJ trivial rfl
          ·intro a w1 vs K bq Hb HJ HK HD HN kk
           obtain rfl:bq=false:=by cases bq with | false=>rfl | true=>exact absurd (Hb rfl).2 (by decide)
           have HJ':MkX wk g d i k (some ⟨ga,0,none⟩) nb n (bitsL p) w1:=HJ
           have e60:=hdE (HD 1 _ 60 rfl rfl rfl)
           have e66:=hdE (HD 7 _ 66 rfl rfl rfl)
           have hq:=kk (.int .i64 d') _ (by simp) HJ trivial rfl
           rw [← HD1.out] at hq
           go_simp
           exact hq
          ·intro a w1 vs K bq Hb HJ HK HD HN kk
           obtain rfl:bq=false:=by cases bq with | false=>rfl | true=>exact absurd (Hb rfl).2 (by decide)
           have HJ':MkX wk g d i k (some ⟨ga,0,none⟩) nb n (bitsL p) w1:=HJ
           have e14:=HK 14 (by decide)
           go_simp;exact kk _ _ (by simp) HJ trivial rfl
          ·intro a w1 vs K bq Hb HJ HK HD HN kk
           obtain rfl:bq=false:=by cases bq with | false=>rfl | true=>exact absurd rfl (Hb rfl).1
           have HJ':MkX wk g d i k (some ⟨ga,0,none⟩) nb n (bitsL p) w1:=HJ
           have e68:=hdE (HD 9 _ 68 rfl rfl rfl)
           have e67:=hdE (HD 8 _ 67 rfl rfl rfl)
           have fz:w1.frozen? ⟨g,0,none⟩=false:=HJ'.bk.free 0
           have ca:w1.cell? ⟨g,0,none⟩=some (.int .i64 d):=HJ'.bk.cell 0
           have hset:=HJ'.set d'
           go_simp
           exact kk undef _ (by simp) hset trivial trivial
         ·intro vs W4 hJ4 hrr
          have HJ4:Hid (MkX wk g d' i k (some ⟨ga,0,none⟩) nb n (bitsL p) W4):=Lib.hid hJ4
          clear hJ4 hrr
          simp only [putAll,Act.put,List.setIfInBounds_toArray,List.set_cons_zero,List.set_cons_succ]
          gi_wp2_with fail
          go_roundw
          case rel=>exact ⟨m+1,by omega,by go_num,Lib.hid (by rw [HSN.out];exact HJ4.out)⟩
          case measure=>simp [intOf];omega
        ·obtain rfl:m=nb:=by omega
         obtain ⟨dx,hdx⟩:∃ x,soonM c f last.day i k (bitsL p) m=x:=⟨_,rfl⟩
         rw [hdx] at hx
         have HX:=Lib.hid hx.out
         have HN3:=Lib.hid (HN2.out.later (by omega) (hx.out.bel.mono (Nat.le_refl _)))
         have hcr3:=HKB3.out.below hx.out.bel HKB3.out.lt
         have HKB4:=Lib.hid hcr3
         obtain ⟨ag,hag⟩:∃ x,(c.craftN i).again=x:=⟨_,rfl⟩
         obtain ⟨fl,hfl⟩:∃ x,f.flown i=x:=⟨_,rfl⟩
         obtain ⟨pv,hpv⟩:∃ x,possB c ⟨dx,i,k,bitsL p⟩=x:=⟨_,rfl⟩
         obtain ⟨cm,hcm⟩:∃ x,cmpL last ⟨dx,i,k,bitsL p⟩=x:=⟨_,rfl⟩
         have HTR:Hid (tryB c f last p i k=if (decide (0<ag) || !fl) && pv && decide (cm<0) then [⟨dx,i,k,bitsL p⟩] else []):=Lib.hid (by
          have hse:soonB c f last.day i k (bitsL p)=dx:=by rw [← soonM_end,HNB.out];exact hdx
          unfold tryB
          rw [hse,craft_nat,hag,hfl]
          dsimp only
          rw [hpv,hcm])
         have c3:wm.cell? ⟨Bc,3,none⟩=some (.int .i64 ag):=by rw [hcr3.cell,← hag];rfl
         have cf:wm.cell? ⟨qb+1,5+i,none⟩=some (.bool fl):=by rw [(HFR.out wm HN3.out.bel).cell,← hfl];exact freeA_flown f (by omega)
         have hst:W0.heap.size≤wm.heap.size:=HN3.out.siz
         have HPS:Hid (∀ w1,Below wm.heap.size wm w1→Calls Tryz.prog 78 #[.agg (campA V c),.agg (cellX dx i k A m n)] w1 fun e w'=>e=.returned (.bool pv)∧Below w1.heap.size w1 w'):=Lib.hid fun w1 hb=>by
          have h1:=possible_any w1 V c ((HCW.out w1 (HN3.out.bel.trans (hb.mono (by omega)))).mono (by have:=hb.size;omega)) HCC.out ⟨dx,i,k,bitsL p⟩ A n (HX.out.ints.later hb).at
          rw [hpv] at h1
          have e:launchA ⟨dx,i,k,bitsL p⟩ A n=cellX dx i k A m n:=by unfold launchA cellX;rw [HNB.out]
          rw [← e];exact h1
         have HCM:Hid (∀ w1,Below wm.heap.size wm w1→Calls Tryz.prog 82 #[.agg (launchA last Al cl),.agg (cellX dx i k A m n)] w1 fun e w'=>e=.returned (.int .i64 cm)∧Below w1.heap.size w1 w'):=Lib.hid fun w1 hb=>by
          have h1:=compare_any w1 last ⟨dx,i,k,bitsL p⟩ Al A cl n (Sl.mono (HLW.out w1 (HN3.out.bel.trans (hb.mono (by omega)))) (by have:=hb.size;omega)) (HX.out.ints.later hb).at
          rw [hcm] at h1
          have e:launchA ⟨dx,i,k,bitsL p⟩ A n=cellX dx i k A m n:=by unfold launchA cellX;rw [HNB.out]
          rw [← e];exact h1.mono fun e w' h2=>⟨h2.1,h2.2.below⟩
         have HL1:Hid (∀ w1,Below wm.heap.size wm w1→∀ j u,(campA V c)[j]?=some u→w1.cell? ⟨qb,0+j,none⟩=some u):=Lib.hid fun w1 hb j u hj=>by
          rw [Nat.zero_add,(HKC.out.below (HN3.out.bel.trans (hb.mono (by omega))) (by omega)).cell];exact hj
         have HL2:Hid (∀ w1,Below wm.heap.size wm w1→∀ j u,(cellX dx i k A m n)[j]?=some u→w1.cell? ⟨g,0+j,none⟩=some u):=Lib.hid fun w1 hb j u hj=>by
          rw [Nat.zero_add,(HX.out.bk.below hb HX.out.bk.lt).cell];exact hj
         have HL3:Hid (∀ w1,Below wm.heap.size wm w1→∀ j u,(launchA last Al cl)[j]?=some u→w1.cell? ⟨qb+1+1,0+j,none⟩=some u):=Lib.hid fun w1 hb j u hj=>by
          rw [Nat.zero_add,(HKL.out.below (HN3.out.bel.trans (hb.mono (by omega))) (by omega)).cell];exact hj
         have HNO:Hid (tryB c f last p i k=[]→∀ w',Below wm.heap.size wm w'→NxS (qb+1+1+1) (qb+1+1+1+1) (.int .u64 (s:Int)) W0 W (L0 ++ rowI c f last p i ++ rowT c f last p i (k+1)) w'∧Bk w' Bc 46 (craftA (c.craftN i))):=Lib.hid fun h w' hb=>by
          rw [rowT_succ,h,List.append_nil]
          exact ⟨HN3.out.later (by omega) hb,HKB4.out.below hb HKB4.out.lt⟩
         clear hx hcr3 hdx hag hfl hpv hcm hm hmn h0m
         have hcs:(0<ag∧(decide (0<ag) || !fl)=true) ∨ (¬ 0<ag∧fl=false∧(decide (0<ag) || !fl)=true) ∨ (¬ 0<ag∧fl=true∧(decide (0<ag) || !fl)=false):=by
          by_cases h:0<ag
          ·exact .inl ⟨h,by simp [h]⟩
          ·cases fl
           ·exact .inr (.inl ⟨h,rfl,by simp⟩)
           ·exact .inr (.inr ⟨h,rfl,by simp [h]⟩)
         rcases hcs with ⟨hag,hbb⟩ | ⟨hag,rfl,hbb⟩ | ⟨hag,rfl,hbb⟩
         case inr.inr =>
          have g1:decide ((0:Int)<ag)=false:=decide_eq_false hag
          rw [hbb,Bool.false_and,Bool.false_and,if_neg (by decide)] at HTR
          have HNE:=Lib.hid (HNO.out HTR.out)
          clear HTR hbb
          gi_wp2_with fail
          refine ⟨trivial,?_⟩
          gi_wp2_with fail
          refine ⟨trivial,?_⟩
          gi_wp2_with fail
          go_roundw
          case rel=>exact ⟨k+1,by omega,by go_num,Lib.hid (HNE.out _ (Below.refl _ _))⟩
          case measure=>simp [intOf];omega
         case inl =>
          have g1:decide ((0:Int)<ag)=true:=decide_eq_true hag
          rw [hbb,Bool.true_and] at HTR
          clear hbb
          cases pv with
          | false =>
           rw [Bool.false_and,if_neg (by decide)] at HTR
           have HNE:=Lib.hid (HNO.out HTR.out)
           clear HTR
           gi_wp2_with (first | (refine wpLoadGI rfl 26 (.tmp 4) rfl qb 0 rfl (campA V c) _ (HL1.out wm (Below.refl _ _)) und_camp rfl (info_campA V c) ?_) | (refine wpLoadGI rfl 52 (.tmp 14) rfl g 0 rfl (cellX dx i k A m n) _ (HL2.out wm (Below.refl _ _)) und_launch rfl (info_cellX _ _ _ _ _ _) ?_))
           refine ⟨trivial,?_⟩
           refine (CallsIn.inRound l (callsIn_wide.2 (HPS.out wm (Below.refl _ _)))).mono ?_
           rintro e w5 ⟨rfl,hb5⟩
           have HB5:=Lib.hid hb5
           clear hb5
           gi_wp2_with fail
           refine ⟨trivial,?_⟩
           gi_wp2_with fail
           go_roundw
           case rel=>exact ⟨k+1,by omega,by go_num,Lib.hid (HNE.out _ HB5.out)⟩
           case measure=>simp [intOf];omega
          | true =>
           rw [Bool.true_and] at HTR
           gi_wp2_with (first | (refine wpLoadGI rfl 26 (.tmp 4) rfl qb 0 rfl (campA V c) _ (HL1.out wm (Below.refl _ _)) und_camp rfl (info_campA V c) ?_) | (refine wpLoadGI rfl 52 (.tmp 14) rfl g 0 rfl (cellX dx i k A m n) _ (HL2.out wm (Below.refl _ _)) und_launch rfl (info_cellX _ _ _ _ _ _) ?_))
           refine ⟨trivial,?_⟩
           refine (CallsIn.inRound l (callsIn_wide.2 (HPS.out wm (Below.refl _ _)))).mono ?_
           rintro e w5 ⟨rfl,hb5⟩
           have HB5:=Lib.hid hb5
           clear hb5
           by_cases hcm:cm<0
           case neg =>
            have g2:decide (cm<(0:Int))=false:=decide_eq_false hcm
            rw [g2,if_neg (by decide)] at HTR
            have HNE:=Lib.hid (HNO.out HTR.out)
            clear HTR
            gi_wp2_with (first | (refine wpLoadGI rfl 52 (.tmp 6) rfl (qb+1+1) 0 rfl (launchA last Al cl) _ (HL3.out w5 HB5.out) und_launch rfl (info_launchA _ _ _) ?_) | (refine wpLoadGI rfl 52 (.tmp 14) rfl g 0 rfl (cellX dx i k A m n) _ (HL2.out w5 HB5.out) und_launch rfl (info_cellX _ _ _ _ _ _) ?_))
            refine ⟨trivial,?_⟩
            refine (CallsIn.inRound l (callsIn_wide.2 (HCM.out w5 HB5.out))).mono ?_
            rintro e w6 ⟨rfl,hb6⟩
            have HB6:=Lib.hid (HB5.out.trans (hb6.mono HB5.out.size))
            clear hb6
            gi_wp2_with fail
            go_roundw
            case rel=>exact ⟨k+1,by omega,by go_num,Lib.hid (HNE.out _ HB6.out)⟩
            case measure=>simp [intOf];omega
           case pos =>
            have g2:decide (cm<(0:Int))=true:=decide_eq_true hcm
            rw [g2,if_pos rfl] at HTR
            gi_wp2_with (first | (refine wpLoadGI rfl 52 (.tmp 6) rfl (qb+1+1) 0 rfl (launchA last Al cl) _ (HL3.out w5 HB5.out) und_launch rfl (info_launchA _ _ _) ?_) | (refine wpLoadGI rfl 52 (.tmp 14) rfl g 0 rfl (cellX dx i k A m n) _ (HL2.out w5 HB5.out) und_launch rfl (info_cellX _ _ _ _ _ _) ?_))
            refine ⟨trivial,?_⟩
            refine (CallsIn.inRound l (callsIn_wide.2 (HCM.out w5 HB5.out))).mono ?_
            rintro e w6 ⟨rfl,hb6⟩
            have HB6:=Lib.hid (HB5.out.trans (hb6.mono HB5.out.size))
            clear hb6
            have hn6:=HN3.out.later (by omega) HB6.out
            have HX6:=Lib.hid (HX.out.later HB6.out)
            have HK6:=Lib.hid (HKB4.out.below HB6.out HKB4.out.lt)
            have HL6:=Lib.hid (HL2.out w6 HB6.out)
            obtain ⟨v,P,Q,hbv,hov⟩:=hn6.own
            have HN6:=Lib.hid hn6
            have HBV:=Lib.hid hbv
            have HOV:=Lib.hid hov
            have cv:w6.cell? ⟨qb+1+1+1,0,none⟩=some v:=hbv.cell 0
            have hown:=hov.row
            have hq6:qb+1+1+1≤w6.heap.size:=by have:=hn6.siz;omega
            obtain ⟨LL,hLL⟩:∃ LL,L0 ++ rowI c f last p i ++ rowT c f last p i k=LL:=⟨_,rfl⟩
            have hlen:LL.length≤400:=by
             rw [← hLL,List.length_append,List.length_append]
             have e1:=HL0.out
             have e2:=rowI_len c f last p i
             have e3:=rowT_len c f last p i k
             rw [HNP.out] at e2
             have e4:i * np≤3 * 2:=Nat.mul_le_mul (by omega) (by omega)
             omega
            have HNX:Hid (L0 ++ rowI c f last p i ++ rowT c f last p i (k+1)=LL ++ [⟨dx,i,k,bitsL p⟩]):=Lib.hid (by rw [rowT_succ,HTR.out,← List.append_assoc,hLL])
            rw [hLL] at hown HN6 HOV
            clear hn6 hbv hov hLL HTR
            gi_wp2_with (first | (refine wpLoadAtI rfl 52 (.tmp 14) rfl g 0 rfl #[.int .i64 dx,.int .i64 (i:Int),.int .i64 (k:Int),.slice A m n] _ HL6.out und_launch rfl (info_cellX _ _ _ _ _ _) ?_) | (gi_at_builtin;refine wpListIn_append_own _ rfl _ _ 27 rfl (qb+1+1+1) 52 i0 (.agg #[.int .i64 0,.int .i64 0,.int .i64 0,.slice none 0 0]) 4 48 Tryz.underlying27 HIL.out HZ0.out HZ1.out HZ2.out rfl (by decide) _ _ _ rfl (hown.alloc _) ⟨w6.heap.size,0,none⟩ 1 1 [.int .i64 dx,.int .i64 (i:Int),.int .i64 (k:Int),.slice A m n] rfl rfl ?qc2 ?qc3 ?qc4 ?qc5 ?qc6 ?qc7))
            case qc2=>intro j u hj;match j,hj with | 0,hj=>simp at hj;subst hj;simp [Addr.add] | 1,hj=>simp at hj;subst hj;simp [Addr.add] | 2,hj=>simp at hj;subst hj;simp [Addr.add] | 3,hj=>simp at hj;subst hj;simp [Addr.add]
            case qc3=>intro u hu;simp at hu;rcases hu with rfl | rfl | rfl | rfl <;> rfl
            case qc4=>unfold maxLen;omega
            case qc5=>omega
            case qc6=>simp;omega
            case qc7 =>
             intro v' w7 hown' hgrow _
             have hpush:=NxS.push (x:=⟨dx,i,k,bitsL p⟩) (A:=A) (cl:=n) HN6.out.bel HN6.out.siz HN6.out.oth HN6.out.sk (by omega) HBV.out HOV.out (HX6.out.ints.mono (by have:=HN2.out.siz;omega)) hgrow (by
              show w7.ownsRow _ _ _ _ _ (_ ++ [.int .i64 dx,.int .i64 (i:Int),.int .i64 (k:Int),.slice A (bitsL p).length n])
              rw [HNB.out];exact hown')
             obtain ⟨g',cap',rfl⟩:=ownsRow_succ hown'
             have c7:=hpush.2.1.cell 0
             have f7:=hpush.2.1.free 0
             have HP:=Lib.hid hpush
             clear hpush hown' hgrow hown cv
             gi_wp2_with fail
             go_roundw
             case rel=>exact ⟨k+1,by omega,by go_num,Lib.hid ⟨by rw [HNX.out];exact HP.out.1,HP.out.2.2 _ _ _ (by decide) (by decide) HK6.out⟩⟩
             case measure=>simp [intOf];omega
         case inr.inl =>
          have g1:decide ((0:Int)<ag)=false:=decide_eq_false hag
          rw [hbb,Bool.true_and] at HTR
          clear hbb
          cases pv with
          | false =>
           rw [Bool.false_and,if_neg (by decide)] at HTR
           have HNE:=Lib.hid (HNO.out HTR.out)
           clear HTR
           gi_wp2_with (first | (refine wpLoadGI rfl 26 (.tmp 4) rfl qb 0 rfl (campA V c) _ (HL1.out wm (Below.refl _ _)) und_camp rfl (info_campA V c) ?_) | (refine wpLoadGI rfl 52 (.tmp 14) rfl g 0 rfl (cellX dx i k A m n) _ (HL2.out wm (Below.refl _ _)) und_launch rfl (info_cellX _ _ _ _ _ _) ?_))
           refine ⟨trivial,?_⟩
           refine (CallsIn.inRound l (callsIn_wide.2 (HPS.out wm (Below.refl _ _)))).mono ?_
           rintro e w5 ⟨rfl,hb5⟩
           have HB5:=Lib.hid hb5
           clear hb5
           gi_wp2_with fail
           refine ⟨trivial,?_⟩
           gi_wp2_with fail
           go_roundw
           case rel=>exact ⟨k+1,by omega,by go_num,Lib.hid (HNE.out _ HB5.out)⟩
           case measure=>simp [intOf];omega
          | true =>
           rw [Bool.true_and] at HTR
           gi_wp2_with (first | (refine wpLoadGI rfl 26 (.tmp 4) rfl qb 0 rfl (campA V c) _ (HL1.out wm (Below.refl _ _)) und_camp rfl (info_campA V c) ?_) | (refine wpLoadGI rfl 52 (.tmp 14) rfl g 0 rfl (cellX dx i k A m n) _ (HL2.out wm (Below.refl _ _)) und_launch rfl (info_cellX _ _ _ _ _ _) ?_))
           refine ⟨trivial,?_⟩
           refine (CallsIn.inRound l (callsIn_wide.2 (HPS.out wm (Below.refl _ _)))).mono ?_
           rintro e w5 ⟨rfl,hb5⟩
           have HB5:=Lib.hid hb5
           clear hb5
           by_cases hcm:cm<0
           case neg =>
            have g2:decide (cm<(0:Int))=false:=decide_eq_false hcm
            rw [g2,if_neg (by decide)] at HTR
            have HNE:=Lib.hid (HNO.out HTR.out)
            clear HTR
            gi_wp2_with (first | (refine wpLoadGI rfl 52 (.tmp 6) rfl (qb+1+1) 0 rfl (launchA last Al cl) _ (HL3.out w5 HB5.out) und_launch rfl (info_launchA _ _ _) ?_) | (refine wpLoadGI rfl 52 (.tmp 14) rfl g 0 rfl (cellX dx i k A m n) _ (HL2.out w5 HB5.out) und_launch rfl (info_cellX _ _ _ _ _ _) ?_))
            refine ⟨trivial,?_⟩
            refine (CallsIn.inRound l (callsIn_wide.2 (HCM.out w5 HB5.out))).mono ?_
            rintro e w6 ⟨rfl,hb6⟩
            have HB6:=Lib.hid (HB5.out.trans (hb6.mono HB5.out.size))
            clear hb6
            gi_wp2_with fail
            go_roundw
            case rel=>exact ⟨k+1,by omega,by go_num,Lib.hid (HNE.out _ HB6.out)⟩
            case measure=>simp [intOf];omega
           case pos =>
            have g2:decide (cm<(0:Int))=true:=decide_eq_true hcm
            rw [g2,if_pos rfl] at HTR
            gi_wp2_with (first | (refine wpLoadGI rfl 52 (.tmp 6) rfl (qb+1+1) 0 rfl (launchA last Al cl) _ (HL3.out w5 HB5.out) und_launch rfl (info_launchA _ _ _) ?_) | (refine wpLoadGI rfl 52 (.tmp 14) rfl g 0 rfl (cellX dx i k A m n) _ (HL2.out w5 HB5.out) und_launch rfl (info_cellX _ _ _ _ _ _) ?_))
            refine ⟨trivial,?_⟩
            refine (CallsIn.inRound l (callsIn_wide.2 (HCM.out w5 HB5.out))).mono ?_
            rintro e w6 ⟨rfl,hb6⟩
            have HB6:=Lib.hid (HB5.out.trans (hb6.mono HB5.out.size))
            clear hb6
            have hn6:=HN3.out.later (by omega) HB6.out
            have HX6:=Lib.hid (HX.out.later HB6.out)
            have HK6:=Lib.hid (HKB4.out.below HB6.out HKB4.out.lt)
            have HL6:=Lib.hid (HL2.out w6 HB6.out)
            obtain ⟨v,P,Q,hbv,hov⟩:=hn6.own
            have HN6:=Lib.hid hn6
            have HBV:=Lib.hid hbv
            have HOV:=Lib.hid hov
            have cv:w6.cell? ⟨qb+1+1+1,0,none⟩=some v:=hbv.cell 0
            have hown:=hov.row
            have hq6:qb+1+1+1≤w6.heap.size:=by have:=hn6.siz;omega
            obtain ⟨LL,hLL⟩:∃ LL,L0 ++ rowI c f last p i ++ rowT c f last p i k=LL:=⟨_,rfl⟩
            have hlen:LL.length≤400:=by
             rw [← hLL,List.length_append,List.length_append]
             have e1:=HL0.out
             have e2:=rowI_len c f last p i
             have e3:=rowT_len c f last p i k
             rw [HNP.out] at e2
             have e4:i * np≤3 * 2:=Nat.mul_le_mul (by omega) (by omega)
             omega
            have HNX:Hid (L0 ++ rowI c f last p i ++ rowT c f last p i (k+1)=LL ++ [⟨dx,i,k,bitsL p⟩]):=Lib.hid (by rw [rowT_succ,HTR.out,← List.append_assoc,hLL])
            rw [hLL] at hown HN6 HOV
            clear hn6 hbv hov hLL HTR
            gi_wp2_with (first | (refine wpLoadAtI rfl 52 (.tmp 14) rfl g 0 rfl #[.int .i64 dx,.int .i64 (i:Int),.int .i64 (k:Int),.slice A m n] _ HL6.out und_launch rfl (info_cellX _ _ _ _ _ _) ?_) | (gi_at_builtin;refine wpListIn_append_own _ rfl _ _ 27 rfl (qb+1+1+1) 52 i0 (.agg #[.int .i64 0,.int .i64 0,.int .i64 0,.slice none 0 0]) 4 48 Tryz.underlying27 HIL.out HZ0.out HZ1.out HZ2.out rfl (by decide) _ _ _ rfl (hown.alloc _) ⟨w6.heap.size,0,none⟩ 1 1 [.int .i64 dx,.int .i64 (i:Int),.int .i64 (k:Int),.slice A m n] rfl rfl ?qc2 ?qc3 ?qc4 ?qc5 ?qc6 ?qc7))
            case qc2=>intro j u hj;match j,hj with | 0,hj=>simp at hj;subst hj;simp [Addr.add] | 1,hj=>simp at hj;subst hj;simp [Addr.add] | 2,hj=>simp at hj;subst hj;simp [Addr.add] | 3,hj=>simp at hj;subst hj;simp [Addr.add]
            case qc3=>intro u hu;simp at hu;rcases hu with rfl | rfl | rfl | rfl <;> rfl
            case qc4=>unfold maxLen;omega
            case qc5=>omega
            case qc6=>simp;omega
            case qc7 =>
             intro v' w7 hown' hgrow _
             have hpush:=NxS.push (x:=⟨dx,i,k,bitsL p⟩) (A:=A) (cl:=n) HN6.out.bel HN6.out.siz HN6.out.oth HN6.out.sk (by omega) HBV.out HOV.out (HX6.out.ints.mono (by have:=HN2.out.siz;omega)) hgrow (by
              show w7.ownsRow _ _ _ _ _ (_ ++ [.int .i64 dx,.int .i64 (i:Int),.int .i64 (k:Int),.slice A (bitsL p).length n])
              rw [HNB.out];exact hown')
             obtain ⟨g',cap',rfl⟩:=ownsRow_succ hown'
             have c7:=hpush.2.1.cell 0
             have f7:=hpush.2.1.free 0
             have HP:=Lib.hid hpush
             clear hpush hown' hgrow hown cv
             gi_wp2_with fail
             go_roundw
             case rel=>exact ⟨k+1,by omega,by go_num,Lib.hid ⟨by rw [HNX.out];exact HP.out.1,HP.out.2.2 _ _ _ (by decide) (by decide) HK6.out⟩⟩
             case measure=>simp [intOf];omega
     ·obtain rfl:k=np:=by omega
      have HRI:Hid (L0 ++ rowI c f last p i ++ rowT c f last p i k=L0 ++ rowI c f last p (i+1)):=Lib.hid (by rw [rowI_succ,HNP.out,List.append_assoc])
      gi_wp2_with fail
      go_roundw
      case rel=>exact ⟨i+1,by omega,by go_num,Lib.hid (by rw [← HRI.out];exact hn2.out.1)⟩
      case measure=>simp [intOf];omega
   ·obtain rfl:i=nc:=by omega
    gi_wp2_with fail
    exact HEND.out _ _ hn.out
 case done =>
  intro D ys W hD hys hIW hK
  obtain ⟨hb,hsk,v,P,Q,hbk,hown⟩:=(HI.out _ _).1 hIW
  rw [hys] at hown
  have HNB:Hid (nextB c f last s=sortL (allP c f last (downL s))):=Lib.hid (nextB_all c f last s)
  have hll:=allP_len HCC.out f last (downL s)
  obtain ⟨LL,hLL⟩:∃ LL,allP c f last (downL s)=LL:=⟨_,rfl⟩
  rw [hLL] at hown HNB hll
  have hll4:LL.length≤378:=by have:=HDL.out;omega
  have HB:=Lib.hid hb
  have HSRT:Hid ((sortL LL).length=LL.length):=Lib.hid (sortL_perm LL).length_eq
  have hsW:W0.heap.size≤W.heap.size:=hb.size
  have cv:W.cell? ⟨qb+1+1+1,0,none⟩=some v:=hbk.cell 0
  have HBK:=Lib.hid hbk
  have HKD:=Lib.hid hK
  have HHD:=Lib.hid hD
  clear hIW hb hsk hbk hys hLL hll hK hD
  by_cases h0:0<LL.length
  ·obtain ⟨g,c',cur,rfl,hc',hro⟩:=hown.rows h0
   have HSF:=Lib.hid (sortF_any W (qb+1+1+1) g c' cur LL P Q hro (by omega))
   have HRO:=Lib.hid hro
   obtain ⟨n,hn⟩:∃ n,LL.length=n:=⟨_,rfl⟩
   have HBK:=HBK
   rw [hn] at cv HSF HSRT hc' HBK
   clear hown hro h0
   gi_wp2_with fail
   refine ⟨trivial,?_⟩
   refine (callsIn_wide.2 HSF.out).mono ?_
   rintro e w2 ⟨rfl,⟨cur',P',Q',hr2,_⟩,hg2⟩
   have HR2:=Lib.hid hr2
   have hbx:Bk w2 (qb+1+1+1) 27 #[.slice (some ⟨g,0,none⟩) n c']:=(hg2.block _ HBK.out.lt (fun e=>by
    have e2:qb+1+1+1=g:=by simpa using e
    have h1:W.heap[qb+1+1+1]?=_:=HBK.out
    have h2:W.heap[g]?=_:=HRO.out.bk
    rw [← e2,h1] at h2
    injection h2 with h2
    injection h2 with _ h2 _
    exact absurd h2 (by decide))).trans HBK.out
   have hkd:w2.heap[D]?=some (.deferred (some [])):=(hg2.block _ (Array.getElem?_eq_some_iff.1 HKD.out).1 (fun e=>by
    have e2:D=g:=by simpa using e
    have h1:=HKD.out
    rw [e2,show W.heap[g]?=_ from HRO.out.bk] at h1
    cases h1)).trans HKD.out
   have hbl2:Below qb W0 w2:=(HB.out.mono (by omega)).grown hg2 (by omega) fun k e=>by
    have e2:g=k:=by simpa using e
    have:=HRO.out.lo
    omega
   have HKD2:=Lib.hid hkd
   have HBL2:=Lib.hid hbl2
   have cv2:=hbx.cell 0
   clear hr2 hg2 hbx hkd hbl2 cv
   gi_wp2_with fail
   have hg3:=grownBy_putObj' w2 D (.deferred none)
   have hr3:∀ r,some D=some r→∃ o:Obj,w2.heap[r]?=some o∧o.isCells=false:=fun r e=>by cases e;exact ⟨_,HKD2.out,rfl⟩
   refine ⟨by simp,.inl ⟨_,_,rfl,run_takeDeferred HKD2.out,?_⟩⟩
   refine ⟨_,results_tmp rfl _ _ _,?_⟩
   show PQ (.returned (.slice (some ⟨g,0,none⟩) n c')) (w2.putObj D (.deferred none))
   refine HFIN.out _ n c' _ (by rw [HNB.out];exact HSRT.out) hc' ⟨by rw [HNB.out,HSRT.out];omega,fun _=>⟨g,cur',P',Q',rfl,?_⟩⟩ ?_
   ·rw [HNB.out]
    exact (HR2.out.turn hg3 hr3).mono (by omega)
   ·exact (HB0.out.trans HBL2.out).grown hg3 (by have:=HBL2.out.size;omega) fun k e=>by cases e;have:=HHD.out;omega
  ·have h00:LL.length=0:=by omega
   obtain ⟨A,c',rfl,hc',_⟩:=hown.form
   rw [h00] at cv HSRT hc'
   have HSF:=Lib.hid (sortF_none W A c')
   have HKQ:=Lib.hid (show sortL LL=[] from by rw [List.length_eq_zero_iff.1 h00];rfl)
   clear hown h0 h00
   gi_wp2_with fail
   refine ⟨trivial,?_⟩
   refine (callsIn_wide.2 HSF.out).mono ?_
   rintro e w2 ⟨rfl,hw2⟩
   subst hw2
   gi_wp2_with fail
   have hg3:=grownBy_putObj' w2 D (.deferred none)
   refine ⟨by simp,.inl ⟨_,_,rfl,run_takeDeferred HKD.out,?_⟩⟩
   refine ⟨_,results_tmp rfl _ _ _,?_⟩
   show PQ (.returned (.slice A 0 c')) (w2.putObj D (.deferred none))
   refine HFIN.out _ 0 c' _ (by rw [HNB.out,HKQ.out];rfl) hc' (by rw [HNB.out,HKQ.out];exact PlanO.nil _ _ _) ?_
   exact (HB0.out.trans (HB.out.mono (by omega))).grown hg3 (by omega) fun k e=>by cases e;have:=HHD.out;omega
end Go.Proofs.YtcnjenlojnognaaGreat
