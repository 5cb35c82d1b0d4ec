/- What is proved: the texts Dd De Df, one behind the other; each says at its head what it proves, and under which conditions. -/
import Derived.Test.YtcnjenlojnognaaGreatg7
/- What is proved: contracts of the document's names and Check. Conditions: the lists and the campaign lie in memory. -/
namespace Go.Proofs.YtcnjenlojnognaaGreat
open Go.RowKit

theorem bytes_beq (a b:ByteArray):(a.toList == b.toList)=decide (a=b):=by
 by_cases h:a=b
 ·subst h;simp
 ·simp only [h,decide_false]
  rw [beq_eq_false_iff_ne]
  intro h2
  apply h
  rw [Go.ByteArray.toList_eq,Go.ByteArray.toList_eq] at h2
  cases a;cases b
  simp only at h2
  rw [Array.toList_inj.1 h2]
def nameN (l:List ByteArray) (i:Nat):ByteArray:=l.getD i ⟨#[]⟩
/-- The texts l lie at A. -/
def StrsAt (w:World) (B:Nat) (A:Option Addr) (l:List ByteArray):Prop:=Sl w B 1 A l.length fun i _=>.string (nameN l i)
set_option maxRecDepth 100000 in
set_option maxHeartbeats 8000000 in
theorem names_any (w:World) (A:Option Addr) (c:Nat) (l:List ByteArray) (h:StrsAt w w.heap.size A l) :
  Calls Tryz.prog 55 #[.slice A l.length c] w fun e w'=>e=.returned (.bool (namesB l))∧Below w.heap.size w w':=by
 have HL:=Lib.hid h
 have hll:=h.1
 obtain ⟨n,hn⟩:∃ n,l.length=n:=⟨_,rfl⟩
 have HN:=Lib.hid hn
 have HD:Hid (namesB l=allN n fun k=>inB (nameN l k).size 1 32 && allN k fun j=>decide (nameN l j ≠ nameN l k)):=Lib.hid (by unfold namesB;rw [hn];rfl)
 obtain ⟨R,hR⟩:∃ R,namesB l=R:=⟨_,rfl⟩
 obtain ⟨PQ,hPQ⟩:∃ Q,(fun (e:Ending) (w':World)=>e=.returned (.bool R)∧Below w.heap.size w w')=Q:=⟨_,rfl⟩
 have HFIN:Hid (∀ x w',R=x→Below w.heap.size w w'→PQ (.returned (.bool x)) w'):=Lib.hid fun x w' h1 h2=>by rw [← hPQ,h1];exact ⟨rfl,h2⟩
 rw [hn] at hll ⊢
 rw [hR] at HD ⊢
 rw [hPQ]
 clear h hn hR hPQ
 go_enter Tryz.func55,Tryz.ntmps55
 go_wp2_with fail
 go_loopw [3] (fun i wr=>∃ k:Nat,k≤n∧i=.int .i64 k∧Hid (Below w.heap.size w wr∧∀ i,i<k→(inB (nameN l i).size 1 32 && allN i fun j=>decide (nameN l j ≠ nameN l i))=true)) (fun i _=>n - (intOf i).toNat)
 case atStart=>exact ⟨0,Nat.zero_le _,rfl,Lib.hid ⟨Below.refl _ _,fun j hj=>absurd hj (Nat.not_lt_zero j)⟩⟩
 case round =>
  obtain ⟨wo,rfl⟩:∃ wo:World,wo=wr:=⟨_,rfl⟩
  obtain ⟨k,hk,rfl,hs⟩:=hrel
  have HB:=Lib.hid hs.out.1
  have HNO:=Lib.hid hs.out.2
  clear hs
  have h0k:(0:Int)≤(k:Int):=by omega
  by_cases hlt:k<n
  case neg =>
   obtain rfl:k=n:=by omega
   have HRT:Hid (R=true):=Lib.hid (by rw [HD.out];exact allN_iff.2 fun i hi=>HNO.out i hi)
   go_wp2_with fail
   first | exact HFIN.out _ _ HRT.out HB.out | (go_ret;exact HFIN.out _ _ HRT.out HB.out)
  case pos =>
   have hki:(k:Int)<(n:Int):=by omega
   obtain ⟨bb,off,hA,hbb,hc⟩:=HL.out.2 (by rw [HN.out];omega)
   subst hA
   have HCC:Hid (∀ w1,Below w.heap.size w w1→∀ j,j<n→w1.cell? ⟨bb,off+j,none⟩=some (.string (nameN l j))):=Lib.hid fun w1 hb j hj=>by
    rw [hb.cell (p:=⟨bb,off+j,none⟩) hbb]
    have:=hc j (by rw [HN.out];exact hj) 0 (by omega)
    simpa using this
   obtain ⟨s,hs⟩:∃ s,nameN l k=s:=⟨_,rfl⟩
   have HS:=Lib.hid hs
   have d0:wo.cell? ⟨bb,off+k,none⟩=some (.string s):=by rw [← hs];exact HCC.out wo HB.out k hlt
   have HBAD:Hid ((inB (nameN l k).size 1 32 && allN k fun j=>decide (nameN l j ≠ nameN l k))=false→R=false):=Lib.hid fun hb=>by
    rw [HD.out]
    cases ha:allN n _ with
    | false=>rfl
    | true=>rw [allN_iff.1 ha k hlt] at hb;cases hb
   clear hs hc
   by_cases h1:inB (s.size:Int) 1 32=true
   case neg =>
    have h1':inB (s.size:Int) 1 32=false:=by simpa using h1
    have HRF:Hid (R=false):=Lib.hid (HBAD.out (by rw [HS.out,h1'];rfl))
    clear h1
    go_wp2_with (go_at_call 53;refine (in_any _ _ _ _).mono ?_;rintro e w' ⟨rfl,rfl⟩)
    first | exact HFIN.out _ _ HRF.out HB.out | (go_ret;exact HFIN.out _ _ HRF.out HB.out)
   case pos =>
    have H1:=Lib.hid h1
    go_wp2_with (go_at_call 53;refine (in_any _ _ _ _).mono ?_;rintro e w' ⟨rfl,rfl⟩)
    clear d0
    go_loopw [4] (fun i wr=>∃ j:Nat,j≤k∧i=.int .i64 j∧Hid (Below w.heap.size w wr∧∀ i,i<j→nameN l i ≠ s)) (fun i _=>k - (intOf i).toNat)
    case atStart=>exact ⟨0,Nat.zero_le _,rfl,Lib.hid ⟨HB.out,fun j hj=>absurd hj (Nat.not_lt_zero j)⟩⟩
    case round =>
     obtain ⟨wi,rfl⟩:∃ wi:World,wi=wr:=⟨_,rfl⟩
     obtain ⟨j,hj,rfl,hs⟩:=hrel
     have HBI:=Lib.hid hs.out.1
     have HNI:=Lib.hid hs.out.2
     clear hs
     have h0j:(0:Int)≤(j:Int):=by omega
     by_cases hjk:j<k
     case neg =>
      obtain rfl:j=k:=by omega
      have HNX:Hid (∀ i,i<j+1→(inB (nameN l i).size 1 32 && allN i fun j=>decide (nameN l j ≠ nameN l i))=true):=Lib.hid fun i hi=>by
       by_cases e:i=j
       ·subst e
        rw [HS.out,H1.out,Bool.true_and]
        exact allN_iff.2 fun m hm=>by simpa using HNI.out m hm
       ·exact HNO.out i (by omega)
      go_wp2_with fail
      go_roundw
      case rel=>first | exact ⟨j+1,by omega,by go_num,Lib.hid ⟨HBI.out,HNX.out⟩⟩ | ((repeat apply Exists.intro);exact ⟨⟨j+1,by omega,by go_num,Lib.hid ⟨HBI.out,HNX.out⟩⟩,rfl⟩)
      case measure=>simp [intOf];omega
     case pos =>
      have hji:(j:Int)<(k:Int):=by omega
      have hjn:(j:Int)<(n:Int):=by omega
      have hjn2:j<n:=by omega
      obtain ⟨t,ht⟩:∃ t,nameN l j=t:=⟨_,rfl⟩
      have HT:=Lib.hid ht
      have HCJ:Hid (∀ w1,Below wi.heap.size wi w1→w1.cell? ⟨bb,off+j,none⟩=some (.string t)∧w1.cell? ⟨bb,off+k,none⟩=some (.string s)):=Lib.hid fun w1 hb=>by
       have hb2:=HBI.out.trans (hb.mono HBI.out.size)
       exact ⟨by rw [← ht];exact HCC.out w1 hb2 j hjn2,by rw [← HS.out];exact HCC.out w1 hb2 k hlt⟩
      clear ht
      by_cases he:t=s
      case pos =>
       have HE:Hid ((t.toList == s.toList)=true):=Lib.hid (by rw [bytes_beq];exact decide_eq_true he)
       have HRF:Hid (R=false):=Lib.hid (HBAD.out (by
        rw [HS.out,H1.out,Bool.true_and]
        cases ha:allN k _ with
        | false=>rfl
        | true =>
         have:=allN_iff.1 ha j hjk
         rw [HT.out,decide_eq_true_eq] at this
         exact absurd he this))
       clear he
       go_upto_region 9 with (fail)
       refine wp_region_steps (by kernel_rfl) (by kernel_rfl) (fun w1=>Below wi.heap.size wi w1) (fun _ _ _=>True)
        (fun ix u _ _=>match ix with
         | 0=>u=.slice (some ⟨bb,off,none⟩) n c
         | 1=>u=.int .i64 (j:Int)
         | 2=>u=.pointer (some ⟨bb,off+j,none⟩)
         | 3=>u=.string t
         | 4=>u=.slice (some ⟨bb,off,none⟩) n c
         | 5=>u=.int .i64 (k:Int)
         | 6=>u=.pointer (some ⟨bb,off+k,none⟩)
         | 7=>u=.string s
         | _=>u=.bool true) (Below.refl _ _).drew (fun _ _ _ _ _ _ _ _ h _ _=>h) ?_ ?_
       ·refine ⟨?_,?_,?_,?_,?_,?_,?_,?_,?_,trivial⟩
        ·intro a w1 vs K HJ HK HD HN kk
         have e0:=HK 0 (by decide)
         go_simp;exact kk _ _ (by simp) HJ trivial rfl
        ·intro a w1 vs K HJ HK HD HN kk
         have e4:=HK 4 (by decide)
         go_simp;exact kk _ _ (by simp) HJ trivial rfl
        ·intro a w1 vs K HJ HK HD HN kk
         have e23:=hdE (HD 0 _ 23 rfl rfl rfl)
         have e24:=hdE (HD 1 _ 24 rfl rfl rfl)
         go_simp;exact kk _ _ (by simp) HJ trivial rfl
        ·intro a w1 vs K HJ HK HD HN kk
         have e25:=hdE (HD 2 _ 25 rfl rfl rfl)
         have ca:w1.cell? ⟨bb,off+j,none⟩=some (.string t):=(HCJ.out w1 HJ).1
         go_simp;exact kk _ _ (by simp) HJ trivial rfl
        ·intro a w1 vs K HJ HK HD HN kk
         have e0:=HK 0 (by decide)
         go_simp;exact kk _ _ (by simp) HJ trivial rfl
        ·intro a w1 vs K HJ HK HD HN kk
         have e3:=HK 3 (by decide)
         go_simp;exact kk _ _ (by simp) HJ trivial rfl
        ·intro a w1 vs K HJ HK HD HN kk
         have e27:=hdE (HD 4 _ 27 rfl rfl rfl)
         have e28:=hdE (HD 5 _ 28 rfl rfl rfl)
         go_simp;exact kk _ _ (by simp) HJ trivial rfl
        ·intro a w1 vs K HJ HK HD HN kk
         have e29:=hdE (HD 6 _ 29 rfl rfl rfl)
         have ca:w1.cell? ⟨bb,off+k,none⟩=some (.string s):=(HCJ.out w1 HJ).2
         go_simp;exact kk _ _ (by simp) HJ trivial rfl
        ·intro a w1 vs K HJ HK HD HN kk
         have e26:=hdE (HD 3 _ 26 rfl rfl rfl)
         have e30:=hdE (HD 7 _ 30 rfl rfl rfl)
         have he:=HE.out
         go_simp;exact kk _ _ (by simp) HJ trivial rfl
       ·intro vs W3 hw6 hrr
        have e8:vs 8=.bool true:=hrr 8 _ rfl
        have HB3:Hid (Below w.heap.size w W3):=Lib.hid (HBI.out.trans (Below.mono hw6 HBI.out.size))
        clear hrr hw6
        simp only [putAll,Act.put,List.setIfInBounds_toArray,List.set_cons_zero,List.set_cons_succ]
        rw [e8]
        go_wp2_with fail
        first | exact HFIN.out _ _ HRF.out HB3.out | (go_ret;exact HFIN.out _ _ HRF.out HB3.out)
      case neg =>
       have HE:Hid ((t.toList == s.toList)=false):=Lib.hid (by rw [bytes_beq];exact decide_eq_false he)
       have HNE:=Lib.hid he
       clear he
       go_upto_region 9 with (fail)
       refine wp_region_steps (by kernel_rfl) (by kernel_rfl) (fun w1=>Below wi.heap.size wi w1) (fun _ _ _=>True)
        (fun ix u _ _=>match ix with
         | 0=>u=.slice (some ⟨bb,off,none⟩) n c
         | 1=>u=.int .i64 (j:Int)
         | 2=>u=.pointer (some ⟨bb,off+j,none⟩)
         | 3=>u=.string t
         | 4=>u=.slice (some ⟨bb,off,none⟩) n c
         | 5=>u=.int .i64 (k:Int)
         | 6=>u=.pointer (some ⟨bb,off+k,none⟩)
         | 7=>u=.string s
         | _=>u=.bool false) (Below.refl _ _).drew (fun _ _ _ _ _ _ _ _ h _ _=>h) ?_ ?_
       ·refine ⟨?_,?_,?_,?_,?_,?_,?_,?_,?_,trivial⟩
        ·intro a w1 vs K HJ HK HD HN kk
         have e0:=HK 0 (by decide)
         go_simp;exact kk _ _ (by simp) HJ trivial rfl
        ·intro a w1 vs K HJ HK HD HN kk
         have e4:=HK 4 (by decide)
         go_simp;exact kk _ _ (by simp) HJ trivial rfl
        ·intro a w1 vs K HJ HK HD HN kk
         have e23:=hdE (HD 0 _ 23 rfl rfl rfl)
         have e24:=hdE (HD 1 _ 24 rfl rfl rfl)
         go_simp;exact kk _ _ (by simp) HJ trivial rfl
        ·intro a w1 vs K HJ HK HD HN kk
         have e25:=hdE (HD 2 _ 25 rfl rfl rfl)
         have ca:w1.cell? ⟨bb,off+j,none⟩=some (.string t):=(HCJ.out w1 HJ).1
         go_simp;exact kk _ _ (by simp) HJ trivial rfl
        ·intro a w1 vs K HJ HK HD HN kk
         have e0:=HK 0 (by decide)
         go_simp;exact kk _ _ (by simp) HJ trivial rfl
        ·intro a w1 vs K HJ HK HD HN kk
         have e3:=HK 3 (by decide)
         go_simp;exact kk _ _ (by simp) HJ trivial rfl
        ·intro a w1 vs K HJ HK HD HN kk
         have e27:=hdE (HD 4 _ 27 rfl rfl rfl)
         have e28:=hdE (HD 5 _ 28 rfl rfl rfl)
         go_simp;exact kk _ _ (by simp) HJ trivial rfl
        ·intro a w1 vs K HJ HK HD HN kk
         have e29:=hdE (HD 6 _ 29 rfl rfl rfl)
         have ca:w1.cell? ⟨bb,off+k,none⟩=some (.string s):=(HCJ.out w1 HJ).2
         go_simp;exact kk _ _ (by simp) HJ trivial rfl
        ·intro a w1 vs K HJ HK HD HN kk
         have e26:=hdE (HD 3 _ 26 rfl rfl rfl)
         have e30:=hdE (HD 7 _ 30 rfl rfl rfl)
         have he:=HE.out
         go_simp;exact kk _ _ (by simp) HJ trivial rfl
       ·intro vs W3 hw6 hrr
        have e8:vs 8=.bool false:=hrr 8 _ rfl
        have HB3:Hid (Below w.heap.size w W3):=Lib.hid (HBI.out.trans (Below.mono hw6 HBI.out.size))
        clear hrr hw6
        simp only [putAll,Act.put,List.setIfInBounds_toArray,List.set_cons_zero,List.set_cons_succ]
        rw [e8]
        go_wp2_with fail
        go_roundw
        case rel=>first | exact ⟨j+1,by omega,by go_num,Lib.hid ⟨HB3.out,fun m hm=>by
         by_cases e:m=j
         ·subst e;rw [HT.out];exact HNE.out
         ·exact HNI.out m (by omega)⟩⟩ | ((repeat apply Exists.intro);exact ⟨⟨j+1,by omega,by go_num,Lib.hid ⟨HB3.out,fun m hm=>by
         by_cases e:m=j
         ·subst e;rw [HT.out];exact HNE.out
         ·exact HNI.out m (by omega)⟩⟩,rfl⟩)
        case measure=>simp [intOf];omega
theorem zero_str (w:World):(zeroValue 9).run Tryz.prog w=.ok (.string ⟨#[]⟩) w:=by kernel_rfl
theorem infoStr:(Tryz.prog.info? 9).map (fun i=>(i.zero,i.size,i.bytes))=some (some (.string ⟨#[]⟩),1,16):=by kernel_rfl
def rowsS (l:List ByteArray):List Value:=l.map Value.string
theorem rowsS_snoc (l:List ByteArray) (x:ByteArray):rowsS (l ++ [x])=rowsS l ++ [.string x]:=by unfold rowsS;simp
theorem strs_of {w:World} {B:Nat} {v:Value} {l:List ByteArray} (h:w.ownsRow B 9 1 v l.length (rowsS l)) (hn:l.length≤4096):∃ A c,v=.slice A l.length c∧StrsAt w w.heap.size A l:=by
 rcases h.2 with ⟨rfl,h0⟩ | ⟨g,cap,cur,rfl,_,hg,h1,_,h3,h4⟩
 ·exact ⟨none,0,by rw [h0],by omega,fun h=>by omega⟩
 ·refine ⟨_,cap,rfl,by omega,fun _=>⟨g,0,rfl,Bk.lt (t:=9) hg,fun i hi j hj=>?_⟩⟩
  obtain rfl:j=0:=by omega
  rw [Bk.cell (t:=9) hg]
  have h5:(cur.toList.take (l.length * 1))[i]?=(rowsS l)[i]?:=by rw [h4]
  rw [List.getElem?_take_of_lt (by omega),Array.getElem?_toList] at h5
  rw [show 0+i * 1+0=i from by omega,h5]
  unfold rowsS nameN
  rw [List.getElem?_map,List.getElem?_eq_getElem hi]
  simp [List.getD_eq_getElem?_getD,List.getElem?_eq_getElem hi]
theorem names_take {α:Type} (l:List α) (f:α→ByteArray) (d:α) (k:Nat) (hk:k<l.length):(l.take (k+1)).map f=(l.take k).map f ++ [f (l.getD k d)]:=by
 rw [List.take_add_one,List.map_append,List.getElem?_eq_getElem hk,List.getD_eq_getElem?_getD,List.getElem?_eq_getElem hk];rfl
theorem getD_in {α:Type} (l:List α) (d:α) {i:Nat} (hi:i<l.length):l.getD i d ∈ l:=by
 rw [List.getD_eq_getElem?_getD,List.getElem?_eq_getElem hi];exact List.getElem_mem hi
theorem all_at {α:Type} (l:List α) (q:α→Bool) (d:α):(allN l.length fun i=>q (l.getD i d))=l.all q:=allN_list l q d
theorem own_below {w w':World} {B:Nat} {T:TypeId} {k n:Nat} {v:Value} {xs:List Value} (h:w.ownsRow B T k v n xs) (hb:Below w.heap.size w w'):w'.ownsRow B T k v n xs :=
 h.kept (grown_below hb none) (by cases e:v.ownBlock with | none=>exact Or.inl rfl | some k=>exact Or.inr (by simp))
theorem campB_iff (c:CampD):campB c=(inB c.crafts.length 1 3 && inB c.pads.length 1 2 && inB c.cargos.length 1 6 && inB c.margin 0 1000 && c.crafts.all craftB && c.pads.all (padB c.crafts.length) && c.cargos.all cargoB && namesB (c.crafts.map (·.name)) && namesB (c.pads.map (·.name)) && namesB (c.cargos.map (·.name))):=rfl
set_option maxRecDepth 100000 in
set_option maxHeartbeats 32000000 in
theorem refCheck_any (w:World) (V:CV) (c:CampD) (h:CampAt w w.heap.size V c) :
  Calls Tryz.prog 19 #[.agg (campA V c)] w fun e w'=>e=.returned (.bool (campB c))∧Below w.heap.size w w':=by
 obtain ⟨qb,hqb⟩:∃ qb,w.heap.size=qb:=⟨_,rfl⟩
 obtain ⟨W0,hW0⟩:∃ W0,w.alloc (.cells (campA V c) 26)=W0:=⟨_,rfl⟩
 have hb0:Below w.heap.size w W0:=by rw [← hW0];exact (Below.refl _ w).alloc (Nat.le_refl _) _
 have HB0:Hid (Below qb w W0):=Lib.hid (by rw [← hqb];exact hb0)
 have HKC:Hid (Bk W0 qb 26 (campA V c)):=Lib.hid (by rw [← hW0,← hqb];exact Bk.new _ _ _)
 have HSZ:Hid (qb≤W0.heap.size):=Lib.hid (by have:=HKC.out.lt;omega)
 have HCA:=Lib.hid (h.later hb0)
 have l1:=h.crafts.1
 have l2:=h.pads.1
 have l3:=h.cargos.1
 obtain ⟨nc,hnc⟩:∃ n,c.crafts.length=n:=⟨_,rfl⟩
 obtain ⟨np,hnp⟩:∃ n,c.pads.length=n:=⟨_,rfl⟩
 obtain ⟨ng,hng⟩:∃ n,c.cargos.length=n:=⟨_,rfl⟩
 obtain ⟨mg,hmg⟩:∃ m,c.margin=m:=⟨_,rfl⟩
 have HNC:=Lib.hid hnc
 have HNP:=Lib.hid hnp
 have HNG:=Lib.hid hng
 obtain ⟨R,hR⟩:∃ R,campB c=R:=⟨_,rfl⟩
 have HR:Hid (R=(inB nc 1 3 && inB np 1 2 && inB ng 1 6 && inB mg 0 1000 && c.crafts.all craftB && c.pads.all (padB nc) && c.cargos.all cargoB && namesB (c.crafts.map (·.name)) && namesB (c.pads.map (·.name)) && namesB (c.cargos.map (·.name)))):=Lib.hid (by rw [← hR,← hnc,← hnp,← hng,← hmg];rfl)
 obtain ⟨PQ,hPQ⟩:∃ Q,(fun (e:Ending) (w':World)=>e=.returned (.bool R)∧Below w.heap.size w w')=Q:=⟨_,rfl⟩
 have HFIN:Hid (∀ x w',R=x→Below W0.heap.size W0 w'→PQ (.returned (.bool x)) w'):=Lib.hid fun x w' h1 h2=>by rw [← hPQ,h1,hqb];exact ⟨rfl,HB0.out.trans (h2.mono HSZ.out)⟩
 have HC:Hid (∀ w1,Below W0.heap.size W0 w1→w1.cell? ⟨qb,0,none⟩=some (.slice V.cA nc V.cc)∧w1.cell? ⟨qb,1,none⟩=some (.slice V.pA np V.pc)∧w1.cell? ⟨qb,2,none⟩=some (.slice V.gA ng V.gc)∧w1.cell? ⟨qb,3,none⟩=some (.int .i64 mg)):=Lib.hid fun w1 hb=>by
  have k1:=HKC.out.below hb HKC.out.lt
  rw [← hnc,← hnp,← hng,← hmg]
  exact ⟨k1.cell 0,k1.cell 1,k1.cell 2,k1.cell 3⟩
 rw [hnc] at l1
 rw [hnp] at l2
 rw [hng] at l3
 rw [hR,hPQ]
 obtain ⟨i0,hi0,hz0,hz1,hz2⟩:=info_parts infoStr
 clear h hb0 hR hPQ
 simp only [campA] at hW0 ⊢
 rw [hnc,hnp,hng,hmg] at hW0 ⊢
 clear hnc hnp hng hmg
 go_enter Tryz.func19,Tryz.ntmps19
 go_upto_region 2 with (fail)
 clear hW0 hqb
 obtain ⟨c0,c1,c2,c3⟩:=HC.out W0 (Below.refl _ _)
 by_cases h0:inB (nc:Int) 1 3=true
 case neg =>
  have h0':inB (nc:Int) 1 3=false:=by simpa using h0
  have HRF:Hid (R=false):=Lib.hid (by rw [HR.out,h0'];simp)
  clear h0
  go_wp2_with (go_at_call 53;refine (in_any _ _ _ _).mono ?_;rintro e w' ⟨rfl,rfl⟩)
  first | exact HFIN.out _ _ HRF.out (Below.refl _ _) | (go_ret;exact HFIN.out _ _ HRF.out (Below.refl _ _))
 case pos =>
 by_cases h1:inB (np:Int) 1 2=true
 case neg =>
  have h1':inB (np:Int) 1 2=false:=by simpa using h1
  have HRF:Hid (R=false):=Lib.hid (by rw [HR.out,h1'];simp)
  clear h1
  go_wp2_with (go_at_call 53;refine (in_any _ _ _ _).mono ?_;rintro e w' ⟨rfl,rfl⟩)
  first | exact HFIN.out _ _ HRF.out (Below.refl _ _) | (go_ret;exact HFIN.out _ _ HRF.out (Below.refl _ _))
 case pos =>
 by_cases h2:inB (ng:Int) 1 6=true
 case neg =>
  have h2':inB (ng:Int) 1 6=false:=by simpa using h2
  have HRF:Hid (R=false):=Lib.hid (by rw [HR.out,h2'];simp)
  clear h2
  go_wp2_with (go_at_call 53;refine (in_any _ _ _ _).mono ?_;rintro e w' ⟨rfl,rfl⟩)
  first | exact HFIN.out _ _ HRF.out (Below.refl _ _) | (go_ret;exact HFIN.out _ _ HRF.out (Below.refl _ _))
 case pos =>
 by_cases h3:inB mg 0 1000=true
 case neg =>
  have h3':inB mg 0 1000=false:=by simpa using h3
  have HRF:Hid (R=false):=Lib.hid (by rw [HR.out,h3'];simp)
  clear h3
  go_wp2_with (go_at_call 53;refine (in_any _ _ _ _).mono ?_;rintro e w' ⟨rfl,rfl⟩)
  first | exact HFIN.out _ _ HRF.out (Below.refl _ _) | (go_ret;exact HFIN.out _ _ HRF.out (Below.refl _ _))
 case pos =>
 have hnc3:=(inB_iff.1 h0)
 have hnp2:=(inB_iff.1 h1)
 have hng6:=(inB_iff.1 h2)
 have HH:=Lib.hid (And.intro h0 (And.intro h1 (And.intro h2 h3)))
 go_wp2_with (go_at_call 53;refine (in_any _ _ _ _).mono ?_;rintro e w' ⟨rfl,rfl⟩)
 clear h0 h1 h2 h3 c0 c1 c2 c3
 have hnc3':nc≤3:=by omega
 have hnp2':np≤2:=by omega
 have hng6':ng≤6:=by omega
 clear hnc3 hnp2 hng6
 go_loopw [3,6] (fun v i wr=>∃ k:Nat,k≤nc∧i=.int .i64 k∧Hid (Below W0.heap.size W0 wr∧(∀ j,j<k→craftB (c.craftN j)=true)∧wr.ownsRow W0.heap.size 9 1 v k (rowsS ((c.crafts.take k).map (·.name))))) (fun _ i _=>nc - (intOf i).toNat)
 case atStart=>exact ⟨0,Nat.zero_le _,rfl,Lib.hid ⟨Below.refl _ _,fun j hj=>absurd hj (Nat.not_lt_zero j),World.ownsRow_nil _ _ _ _⟩⟩
 case round =>
  obtain ⟨wo,rfl⟩:∃ wo:World,wo=wr:=⟨_,rfl⟩
  obtain ⟨k,hk,rfl,hs⟩:=hrel
  have HB:=Lib.hid hs.out.1
  have HNO:=Lib.hid hs.out.2.1
  have HO:=Lib.hid hs.out.2.2
  clear hs
  have h0k:(0:Int)≤(k:Int):=by omega
  have HBW:Hid (Below W0.heap.size W0 wo):=Lib.hid (HB.out)
  obtain ⟨c0,c1,c2,_⟩:=HC.out wo HBW.out
  by_cases hlt:k<nc
  case pos =>
   have hki:(k:Int)<(nc:Int):=by omega
   have HKL:Hid (k<c.crafts.length):=Lib.hid (by rw [HNC.out];exact hlt)
   obtain ⟨b,off,hA,hB,g0,g1,g2,g3⟩:=Sl.at4 (HCA.out.later HBW.out).crafts (i:=k) (by rw [HNC.out];exact hlt)
   dsimp only [craftC] at g0 g1 g2 g3
   rw [hA] at c0
   obtain ⟨y,hy⟩:∃ y,c.craftN k=y:=⟨_,rfl⟩
   rw [hy] at g0 g1 g2 g3
   have HYN:Hid ((c.crafts.getD k craft0).name=y.name):=Lib.hid (by rw [← hy];rfl)
   have HOKY:Hid (craftB (c.craftN k)=(inB y.lift 0 1073741824 && inB y.ready 0 10000 && inB y.again 0 10000)):=Lib.hid (by rw [hy];rfl)
   have HBAD:Hid (craftB (c.craftN k)=false→R=false):=Lib.hid fun hb=>by
    have:c.crafts.all craftB=false:=by
     rw [List.all_eq_false]
     exact ⟨c.craftN k,getD_in _ _ HKL.out,by rw [hb];decide⟩
    rw [HR.out,this];simp
   have HBG:Hid (∀ o1 o2,Below W0.heap.size W0 ((wo.alloc o1).alloc o2)):=Lib.hid fun o1 o2=>(HB.out.alloc HB.out.size _).alloc (by simp;have:=HB.out.size;omega) _
   clear hA hy c1 c2
   have hown:=HO.out
   by_cases t0:inB y.lift 0 1073741824=true
   case neg =>
    have t0':inB y.lift 0 1073741824=false:=by simpa using t0
    have HRF:Hid (R=false):=Lib.hid (HBAD.out (by rw [HOKY.out,t0'];simp))
    clear t0

    have HF:=Lib.hid (HFIN.out _ _ HRF.out (HB.out.alloc HB.out.size (.cells #[.string y.name,.int .i64 y.lift,.int .i64 y.ready,.int .i64 y.again] 46)))
    go_wp2_with (go_at_call 53;refine (in_any _ _ _ _).mono ?_;rintro e w' ⟨rfl,rfl⟩)
    first | exact HF.out | (go_ret;exact HF.out)
   case pos =>
    by_cases t1:inB y.ready 0 10000=true
    case neg =>
     have t1':inB y.ready 0 10000=false:=by simpa using t1
     have HRF:Hid (R=false):=Lib.hid (HBAD.out (by rw [HOKY.out,t1'];simp))
     clear t1

     have HF:=Lib.hid (HFIN.out _ _ HRF.out (HB.out.alloc HB.out.size (.cells #[.string y.name,.int .i64 y.lift,.int .i64 y.ready,.int .i64 y.again] 46)))
     go_wp2_with (go_at_call 53;refine (in_any _ _ _ _).mono ?_;rintro e w' ⟨rfl,rfl⟩)
     first | exact HF.out | (go_ret;exact HF.out)
    case pos =>
     by_cases t2:inB y.again 0 10000=true
     case neg =>
      have t2':inB y.again 0 10000=false:=by simpa using t2
      have HRF:Hid (R=false):=Lib.hid (HBAD.out (by rw [HOKY.out,t2'];simp))
      clear t2

      have HF:=Lib.hid (HFIN.out _ _ HRF.out (HB.out.alloc HB.out.size (.cells #[.string y.name,.int .i64 y.lift,.int .i64 y.ready,.int .i64 y.again] 46)))
      go_wp2_with (go_at_call 53;refine (in_any _ _ _ _).mono ?_;rintro e w' ⟨rfl,rfl⟩)
      first | exact HF.out | (go_ret;exact HF.out)
     case pos =>
      have HNX:Hid (∀ j,j<k+1→craftB (c.craftN j)=true):=Lib.hid fun j hj=>by
       by_cases e:j=k
       ·subst e;rw [HOKY.out,t0,t1,t2];rfl
       ·exact HNO.out j (by omega)
      go_wp2_with (first | (go_at_call 53;refine (in_any _ _ _ _).mono ?_;rintro e w' ⟨rfl,rfl⟩) | (at_builtin;refine wpList_append_own _ rfl _ _ 78 rfl W0.heap.size 9 i0 (.string ⟨#[]⟩) 1 16 Tryz.underlying78 hi0 hz0 hz1 hz2 rfl (by decide) _ _ _ rfl ((hown.alloc _).alloc _) ⟨wo.heap.size+1,0,none⟩ 1 1 [.string y.name] rfl rfl ?qc2 ?qc3 ?qc4 ?qc5 ?qc6 ?qc7))
      case qc2=>intro j u hj;match j,hj with | 0,hj=>simp at hj;subst hj;simp [Addr.add]
      case qc3=>intro u hu;simp at hu;subst hu;rfl
      case qc4=>unfold maxLen;omega
      case qc5=>omega
      case qc6=>simp;have:=HB.out.size;omega
      case qc7 =>
       intro v' w2 hown' hgrow _
       have HB2:Hid (Below W0.heap.size W0 w2):=Lib.hid ((HBG.out _ _).grown hgrow (by have:=HB.out.size;simp;omega) fun g hg=>(hown.lt g hg).1)
       have HO2:Hid (w2.ownsRow W0.heap.size 9 1 v' (k+1) (rowsS ((c.crafts.take (k+1)).map (·.name)))):=Lib.hid (by
        rw [names_take c.crafts (·.name) _ k HKL.out,rowsS_snoc,HYN.out];first | exact hown' | (rw [List.map_take];exact hown'))
       clear hgrow hown' hown
       go_wp2_with fail
       go_roundw
       case rel=>first | exact ⟨k+1,by omega,by go_num,Lib.hid ⟨HB2.out,HNX.out,HO2.out⟩⟩ | ((repeat apply Exists.intro);exact ⟨⟨k+1,by omega,by go_num,Lib.hid ⟨HB2.out,HNX.out,HO2.out⟩⟩,rfl⟩)
       case measure=>simp [intOf];omega
  case neg =>
   obtain rfl:nc=k:=by omega
   have hown:=HO.out
   rw [show c.crafts.take nc=c.crafts from List.take_of_length_le (by rw [HNC.out];exact Nat.le_refl _)] at hown
   have hln:(c.crafts.map (·.name)).length=nc:=by rw [List.length_map];exact HNC.out
   have hown2:wo.ownsRow W0.heap.size 9 1 u3 (c.crafts.map (·.name)).length (rowsS (c.crafts.map (·.name))):=by rw [hln];exact hown
   obtain ⟨A1,cA1,rfl,hstA1⟩:=strs_of hown2 (by omega)
   have HSTA1:=Lib.hid hstA1
   have HALA1:Hid (c.crafts.all craftB=true):=Lib.hid (by
    rw [← all_at c.crafts craftB craft0,HNC.out];exact allN_iff.2 fun j hj=>HNO.out j hj)
   rw [hln]
   obtain ⟨WA1,hWA1⟩:∃ WA1:World,WA1=wo:=⟨_,rfl⟩
   subst hWA1
   have HBLA1:=Lib.hid HBW.out
   clear hown hown2 hstA1 HO HNO HB HBW hln
   go_wp2_with fail
   clear c0 c1 c2
   go_loopw [4,8] (fun v i wr=>∃ k:Nat,k≤np∧i=.int .i64 k∧Hid (Below WA1.heap.size WA1 wr∧(∀ j,j<k→padB nc (c.padN j)=true)∧wr.ownsRow WA1.heap.size 9 1 v k (rowsS ((c.pads.take k).map (·.name))))) (fun _ i _=>np - (intOf i).toNat)
   case atStart=>exact ⟨0,Nat.zero_le _,rfl,Lib.hid ⟨Below.refl _ _,fun j hj=>absurd hj (Nat.not_lt_zero j),World.ownsRow_nil _ _ _ _⟩⟩
   case round =>
    obtain ⟨wo,rfl⟩:∃ wo:World,wo=wr:=⟨_,rfl⟩
    obtain ⟨k,hk,rfl,hs⟩:=hrel
    have HB:=Lib.hid hs.out.1
    have HNO:=Lib.hid hs.out.2.1
    have HO:=Lib.hid hs.out.2.2
    clear hs
    have h0k:(0:Int)≤(k:Int):=by omega
    have HBW:Hid (Below W0.heap.size W0 wo):=Lib.hid (HBLA1.out.trans (HB.out.mono HBLA1.out.size))
    obtain ⟨c0,c1,c2,_⟩:=HC.out wo HBW.out
    by_cases hlt:k<np
    case pos =>
     have hki:(k:Int)<(np:Int):=by omega
     have HKL:Hid (k<c.pads.length):=Lib.hid (by rw [HNP.out];exact hlt)
     obtain ⟨b,off,hA,hB,g0,g1,g2⟩:=Sl.at3 (HCA.out.later HBW.out).pads (i:=k) (by rw [HNP.out];exact hlt)
     dsimp only [padC] at g0 g1 g2
     rw [hA] at c1
     have htk:=(HCA.out.later HBW.out).takes k (by rw [HNP.out];exact hlt)
     obtain ⟨y,hy⟩:∃ y,c.padN k=y:=⟨_,rfl⟩
     rw [hy] at g0 g1 g2 htk
     have HTK:=Lib.hid htk
     obtain ⟨nt,hnt⟩:∃ n,y.takes.length=n:=⟨_,rfl⟩
     rw [hnt] at g2
     have HYN:Hid ((c.pads.getD k pad0).name=y.name):=Lib.hid (by rw [← hy];rfl)
     have HOKY:Hid (padB nc (c.padN k)=(inB y.clean 0 10000 && risingB y.takes nc)):=Lib.hid (by rw [hy];rfl)
     have HRI:Hid (∀ o,Calls Tryz.prog 54 #[.slice (V.tA k) nt (V.tc k),.int .i64 (nc:Int)] (wo.alloc o) fun e w'=>e=.returned (.bool (risingB y.takes nc))∧Below (wo.alloc o).heap.size (wo.alloc o) w'):=Lib.hid fun o=>by
      rw [← hnt]
      exact refRising_any _ _ _ _ _ ⟨by omega,by omega⟩ (HTK.out.later ((Below.refl _ _).alloc (Nat.le_refl _) _))
     have HBAD:Hid (padB nc (c.padN k)=false→R=false):=Lib.hid fun hb=>by
      have:c.pads.all (padB nc)=false:=by
       rw [List.all_eq_false]
       exact ⟨c.padN k,getD_in _ _ HKL.out,by rw [hb];decide⟩
      rw [HR.out,this];simp
     have HBG0:Hid (∀ o w',Below (wo.alloc o).heap.size (wo.alloc o) w'→Below WA1.heap.size WA1 w'):=Lib.hid fun o w' hb=>(HB.out.alloc HB.out.size _).trans (hb.mono (by simp;have:=HB.out.size;omega))
     have hqw:qb<wo.heap.size:=by have:=HKC.out.lt;have:=HBW.out.size;omega
     clear hA hy htk hnt
     have hown:=HO.out
     by_cases t0:inB y.clean 0 10000=true
     case neg =>
      have t0':inB y.clean 0 10000=false:=by simpa using t0
      have HRF:Hid (R=false):=Lib.hid (HBAD.out (by rw [HOKY.out,t0'];simp))
      clear t0

      have HF:=Lib.hid (HFIN.out _ _ HRF.out (HBLA1.out.trans ((HB.out.alloc HB.out.size (.cells #[.string y.name,.int .i64 y.clean,.slice (V.tA k) nt (V.tc k)] 61)).mono HBLA1.out.size)))
      go_wp2_with (go_at_call 53;refine (in_any _ _ _ _).mono ?_;rintro e w' ⟨rfl,rfl⟩)
      first | exact HF.out | (go_ret;exact HF.out)
     case pos =>
      obtain ⟨rb,hrb⟩:∃ b,risingB y.takes nc=b:=⟨_,rfl⟩
      rw [hrb] at HRI HOKY
      clear hrb
      go_wp2_with (go_at_call 53;refine (in_any _ _ _ _).mono ?_;rintro e w' ⟨rfl,rfl⟩)
      refine (HRI.out _).mono ?_
      rintro e w9 ⟨rfl,hb9⟩
      have HB9:=Lib.hid hb9
      have e0:w9.cell? ⟨wo.heap.size,0,none⟩=some (.string y.name):=by rw [hb9.cell (p:=⟨wo.heap.size,0,none⟩) (by simp)];simp
      have hw9:wo.heap.size<w9.heap.size:=by have:=hb9.size;simp at this;omega
      have HBP:Hid (Below WA1.heap.size WA1 w9):=Lib.hid (HBG0.out _ _ hb9)
      have hown9:=own_below (hown.alloc _) hb9
      have HBG:Hid (∀ o2,Below WA1.heap.size WA1 (w9.alloc o2)):=Lib.hid fun o2=>HBP.out.alloc HBP.out.size _
      clear hb9 hown
      cases rb with
      | false =>
       have HRF:Hid (R=false):=Lib.hid (HBAD.out (by rw [HOKY.out];simp))
       have HF:=Lib.hid (HFIN.out _ _ HRF.out (HBLA1.out.trans (HBP.out.mono HBLA1.out.size)))
       clear hown9 e0
       go_wp2_with fail
       first | exact HF.out | (go_ret;exact HF.out)
      | true =>
       have HNX:Hid (∀ j,j<k+1→padB nc (c.padN j)=true):=Lib.hid fun j hj=>by
        by_cases e:j=k
        ·subst e;rw [HOKY.out,t0];rfl
        ·exact HNO.out j (by omega)
       go_wp2_with ((at_builtin;refine wpList_append_own _ rfl _ _ 78 rfl WA1.heap.size 9 i0 (.string ⟨#[]⟩) 1 16 Tryz.underlying78 hi0 hz0 hz1 hz2 rfl (by decide) _ _ _ rfl (hown9.alloc _) ⟨w9.heap.size,0,none⟩ 1 1 [.string y.name] rfl rfl ?qc2 ?qc3 ?qc4 ?qc5 ?qc6 ?qc7))
       case qc2=>intro j u hj;match j,hj with | 0,hj=>simp at hj;subst hj;simp [Addr.add]
       case qc3=>intro u hu;simp at hu;subst hu;rfl
       case qc4=>unfold maxLen;omega
       case qc5=>omega
       case qc6=>simp;have:=HBP.out.size;omega
       case qc7 =>
        intro v' w2 hown' hgrow _
        have HB2:Hid (Below WA1.heap.size WA1 w2):=Lib.hid ((HBG.out _).grown hgrow (by have:=HBP.out.size;simp;omega) fun g hg=>(hown9.lt g hg).1)
        have HO2:Hid (w2.ownsRow WA1.heap.size 9 1 v' (k+1) (rowsS ((c.pads.take (k+1)).map (·.name)))):=Lib.hid (by
         rw [names_take c.pads (·.name) _ k HKL.out,rowsS_snoc,HYN.out];first | exact hown' | (rw [List.map_take];exact hown'))
        clear hgrow hown' hown9 e0
        go_wp2_with fail
        go_roundw
        case rel=>first | exact ⟨k+1,by omega,by go_num,Lib.hid ⟨HB2.out,HNX.out,HO2.out⟩⟩ | ((repeat apply Exists.intro);exact ⟨⟨k+1,by omega,by go_num,Lib.hid ⟨HB2.out,HNX.out,HO2.out⟩⟩,rfl⟩)
        case measure=>simp [intOf];omega
    case neg =>
     obtain rfl:np=k:=by omega
     have hown:=HO.out
     rw [show c.pads.take np=c.pads from List.take_of_length_le (by rw [HNP.out];exact Nat.le_refl _)] at hown
     have hln:(c.pads.map (·.name)).length=np:=by rw [List.length_map];exact HNP.out
     have hown2:wo.ownsRow WA1.heap.size 9 1 u4 (c.pads.map (·.name)).length (rowsS (c.pads.map (·.name))):=by rw [hln];exact hown
     obtain ⟨A2,cA2,rfl,hstA2⟩:=strs_of hown2 (by omega)
     have HSTA2:=Lib.hid hstA2
     have HALA2:Hid (c.pads.all (padB nc)=true):=Lib.hid (by
      rw [← all_at c.pads (padB nc) pad0,HNP.out];exact allN_iff.2 fun j hj=>HNO.out j hj)
     rw [hln]
     obtain ⟨WA2,hWA2⟩:∃ WA2:World,WA2=wo:=⟨_,rfl⟩
     subst hWA2
     have HBLA2:=Lib.hid HBW.out
     have HB12:=Lib.hid HB.out
     clear hown hown2 hstA2 HO HNO HB HBW hln
     clear c0 c2
     go_wp2_with fail
     clear c1
     go_loopw [5,10] (fun v i wr=>∃ k:Nat,k≤ng∧i=.int .i64 k∧Hid (Below WA2.heap.size WA2 wr∧(∀ j,j<k→cargoB (c.cargoN j)=true)∧wr.ownsRow WA2.heap.size 9 1 v k (rowsS ((c.cargos.take k).map (·.name))))) (fun _ i _=>ng - (intOf i).toNat)
     case atStart=>exact ⟨0,Nat.zero_le _,rfl,Lib.hid ⟨Below.refl _ _,fun j hj=>absurd hj (Nat.not_lt_zero j),World.ownsRow_nil _ _ _ _⟩⟩
     case round =>
      obtain ⟨wo,rfl⟩:∃ wo:World,wo=wr:=⟨_,rfl⟩
      obtain ⟨k,hk,rfl,hs⟩:=hrel
      have HB:=Lib.hid hs.out.1
      have HNO:=Lib.hid hs.out.2.1
      have HO:=Lib.hid hs.out.2.2
      clear hs
      have h0k:(0:Int)≤(k:Int):=by omega
      have HBW:Hid (Below W0.heap.size W0 wo):=Lib.hid (HBLA2.out.trans (HB.out.mono HBLA2.out.size))
      obtain ⟨c0,c1,c2,_⟩:=HC.out wo HBW.out
      by_cases hlt:k<ng
      case pos =>
       have hki:(k:Int)<(ng:Int):=by omega
       have HKL:Hid (k<c.cargos.length):=Lib.hid (by rw [HNG.out];exact hlt)
       obtain ⟨b,off,hA,hB,g0,g1,g2,g3,g4,g5⟩:=Sl.at6 (HCA.out.later HBW.out).cargos (i:=k) (by rw [HNG.out];exact hlt)
       dsimp only [cargoC] at g0 g1 g2 g3 g4 g5
       rw [hA] at c2
       obtain ⟨y,hy⟩:∃ y,c.cargoN k=y:=⟨_,rfl⟩
       rw [hy] at g0 g1 g2 g3 g4 g5
       have HYN:Hid ((c.cargos.getD k cargo0).name=y.name):=Lib.hid (by rw [← hy];rfl)
       have HOKY:Hid (cargoB (c.cargoN k)=(inB y.mass 0 1073741824 && inB y.value 0 1073741824 && inB y.frm 0 y.to && decide (y.to≤10000))):=Lib.hid (by rw [hy];rfl)
       have HBAD:Hid (cargoB (c.cargoN k)=false→R=false):=Lib.hid fun hb=>by
        have:c.cargos.all cargoB=false:=by
         rw [List.all_eq_false]
         exact ⟨c.cargoN k,getD_in _ _ HKL.out,by rw [hb];decide⟩
        rw [HR.out,this];simp
       have HBG:Hid (∀ o1 o2,Below WA2.heap.size WA2 ((wo.alloc o1).alloc o2)):=Lib.hid fun o1 o2=>(HB.out.alloc HB.out.size _).alloc (by simp;have:=HB.out.size;omega) _
       clear hA hy c0 c1
       have hown:=HO.out
       by_cases t0:inB y.mass 0 1073741824=true
       case neg =>
        have t0':inB y.mass 0 1073741824=false:=by simpa using t0
        have HRF:Hid (R=false):=Lib.hid (HBAD.out (by rw [HOKY.out,t0'];simp))
        clear t0

        have HF:=Lib.hid (HFIN.out _ _ HRF.out (HBLA2.out.trans ((HB.out.alloc HB.out.size (.cells #[.string y.name,.int .i64 y.mass,.int .i64 y.value,.int .i64 y.frm,.int .i64 y.to,.bool y.must] 54)).mono HBLA2.out.size)))
        go_wp2_with (go_at_call 53;refine (in_any _ _ _ _).mono ?_;rintro e w' ⟨rfl,rfl⟩)
        first | exact HF.out | (go_ret;exact HF.out)
       case pos =>
        by_cases t1:inB y.value 0 1073741824=true
        case neg =>
         have t1':inB y.value 0 1073741824=false:=by simpa using t1
         have HRF:Hid (R=false):=Lib.hid (HBAD.out (by rw [HOKY.out,t1'];simp))
         clear t1

         have HF:=Lib.hid (HFIN.out _ _ HRF.out (HBLA2.out.trans ((HB.out.alloc HB.out.size (.cells #[.string y.name,.int .i64 y.mass,.int .i64 y.value,.int .i64 y.frm,.int .i64 y.to,.bool y.must] 54)).mono HBLA2.out.size)))
         go_wp2_with (go_at_call 53;refine (in_any _ _ _ _).mono ?_;rintro e w' ⟨rfl,rfl⟩)
         first | exact HF.out | (go_ret;exact HF.out)
        case pos =>
         by_cases t2:inB y.frm 0 y.to=true
         case neg =>
          have t2':inB y.frm 0 y.to=false:=by simpa using t2
          have HRF:Hid (R=false):=Lib.hid (HBAD.out (by rw [HOKY.out,t2'];simp))
          clear t2

          have HF:=Lib.hid (HFIN.out _ _ HRF.out (HBLA2.out.trans ((HB.out.alloc HB.out.size (.cells #[.string y.name,.int .i64 y.mass,.int .i64 y.value,.int .i64 y.frm,.int .i64 y.to,.bool y.must] 54)).mono HBLA2.out.size)))
          go_wp2_with (go_at_call 53;refine (in_any _ _ _ _).mono ?_;rintro e w' ⟨rfl,rfl⟩)
          first | exact HF.out | (go_ret;exact HF.out)
         case pos =>
          by_cases t3:y.to≤10000
          case neg =>
           have t3':(10000:Int)<y.to:=by omega
           have HRF:Hid (R=false):=Lib.hid (HBAD.out (by rw [HOKY.out,decide_eq_false t3];simp))
           clear t3
           have HF:=Lib.hid (HFIN.out _ _ HRF.out (HBLA2.out.trans ((HB.out.alloc HB.out.size (.cells #[.string y.name,.int .i64 y.mass,.int .i64 y.value,.int .i64 y.frm,.int .i64 y.to,.bool y.must] 54)).mono HBLA2.out.size)))
           go_wp2_with (go_at_call 53;refine (in_any _ _ _ _).mono ?_;rintro e w' ⟨rfl,rfl⟩)
           first | exact HF.out | (go_ret;exact HF.out)
          case pos =>
           have t3':¬ (10000:Int)<y.to:=by omega
           have HNX:Hid (∀ j,j<k+1→cargoB (c.cargoN j)=true):=Lib.hid fun j hj=>by
            by_cases e:j=k
            ·subst e;rw [HOKY.out,t0,t1,t2,decide_eq_true t3];rfl
            ·exact HNO.out j (by omega)
           clear t3
           go_wp2_with (first | (go_at_call 53;refine (in_any _ _ _ _).mono ?_;rintro e w' ⟨rfl,rfl⟩) | (at_builtin;refine wpList_append_own _ rfl _ _ 78 rfl WA2.heap.size 9 i0 (.string ⟨#[]⟩) 1 16 Tryz.underlying78 hi0 hz0 hz1 hz2 rfl (by decide) _ _ _ rfl ((hown.alloc _).alloc _) ⟨wo.heap.size+1,0,none⟩ 1 1 [.string y.name] rfl rfl ?qc2 ?qc3 ?qc4 ?qc5 ?qc6 ?qc7))
           case qc2=>intro j u hj;match j,hj with | 0,hj=>simp at hj;subst hj;simp [Addr.add]
           case qc3=>intro u hu;simp at hu;subst hu;rfl
           case qc4=>unfold maxLen;omega
           case qc5=>omega
           case qc6=>simp;have:=HB.out.size;omega
           case qc7 =>
            intro v' w2 hown' hgrow _
            have HB2:Hid (Below WA2.heap.size WA2 w2):=Lib.hid ((HBG.out _ _).grown hgrow (by have:=HB.out.size;simp;omega) fun g hg=>(hown.lt g hg).1)
            have HO2:Hid (w2.ownsRow WA2.heap.size 9 1 v' (k+1) (rowsS ((c.cargos.take (k+1)).map (·.name)))):=Lib.hid (by
             rw [names_take c.cargos (·.name) _ k HKL.out,rowsS_snoc,HYN.out];first | exact hown' | (rw [List.map_take];exact hown'))
            clear hgrow hown' hown
            go_wp2_with fail
            go_roundw
            case rel=>first | exact ⟨k+1,by omega,by go_num,Lib.hid ⟨HB2.out,HNX.out,HO2.out⟩⟩ | ((repeat apply Exists.intro);exact ⟨⟨k+1,by omega,by go_num,Lib.hid ⟨HB2.out,HNX.out,HO2.out⟩⟩,rfl⟩)
            case measure=>simp [intOf];omega
      case neg =>
       obtain rfl:ng=k:=by omega
       have hown:=HO.out
       rw [show c.cargos.take ng=c.cargos from List.take_of_length_le (by rw [HNG.out];exact Nat.le_refl _)] at hown
       have hln:(c.cargos.map (·.name)).length=ng:=by rw [List.length_map];exact HNG.out
       have hown2:wo.ownsRow WA2.heap.size 9 1 u5 (c.cargos.map (·.name)).length (rowsS (c.cargos.map (·.name))):=by rw [hln];exact hown
       obtain ⟨A3,cA3,rfl,hstA3⟩:=strs_of hown2 (by omega)
       have HSTA3:=Lib.hid hstA3
       have HALA3:Hid (c.cargos.all cargoB=true):=Lib.hid (by
        rw [← all_at c.cargos cargoB cargo0,HNG.out];exact allN_iff.2 fun j hj=>HNO.out j hj)
       rw [hln]
       obtain ⟨WA3,hWA3⟩:∃ WA3:World,WA3=wo:=⟨_,rfl⟩
       subst hWA3
       have HBLA3:=Lib.hid HBW.out
       have HB23:=Lib.hid HB.out
       clear hown hown2 hstA3 HO HNO HB HBW hln
       clear c0 c1
       have HSA1:Hid (StrsAt WA3 WA3.heap.size A1 (c.crafts.map (·.name))):=Lib.hid (Sl.mono (Sl.below HSTA1.out (HB12.out.trans (HB23.out.mono HB12.out.size))) (by have:=HB12.out.size;have:=HB23.out.size;omega))
       have HSA2:Hid (StrsAt WA3 WA3.heap.size A2 (c.pads.map (·.name))):=Lib.hid (Sl.mono (Sl.below HSTA2.out HB23.out) HB23.out.size)
       obtain ⟨b1,hb1⟩:∃ b,namesB (c.crafts.map (·.name))=b:=⟨_,rfl⟩
       obtain ⟨b2,hb2⟩:∃ b,namesB (c.pads.map (·.name))=b:=⟨_,rfl⟩
       obtain ⟨b3,hb3⟩:∃ b,namesB (c.cargos.map (·.name))=b:=⟨_,rfl⟩
       have HRR:Hid (R=(b1 && b2 && b3)):=Lib.hid (by rw [HR.out,HH.out.1,HH.out.2.1,HH.out.2.2.1,HH.out.2.2.2,HALA1.out,HALA2.out,HALA3.out,hb1,hb2,hb3];simp)
       have HN1:Hid (Calls Tryz.prog 55 #[.slice A1 nc cA1] WA3 fun e w'=>e=.returned (.bool b1)∧Below WA3.heap.size WA3 w'):=Lib.hid (by
        have:=names_any WA3 A1 cA1 _ HSA1.out
        rw [hb1,List.length_map,HNC.out] at this;exact this)
       have HN2:Hid (∀ w1,Below WA3.heap.size WA3 w1→Calls Tryz.prog 55 #[.slice A2 np cA2] w1 fun e w'=>e=.returned (.bool b2)∧Below w1.heap.size w1 w'):=Lib.hid fun w1 hb=>by
        have:=names_any w1 A2 cA2 _ (Sl.mono (Sl.below HSA2.out hb) hb.size)
        rw [hb2,List.length_map,HNP.out] at this;exact this
       have HN3:Hid (∀ w1,Below WA3.heap.size WA3 w1→Calls Tryz.prog 55 #[.slice A3 ng cA3] w1 fun e w'=>e=.returned (.bool b3)∧Below w1.heap.size w1 w'):=Lib.hid fun w1 hb=>by
        have:=names_any w1 A3 cA3 _ (Sl.mono (Sl.below HSTA3.out hb) hb.size)
        rw [hb3,List.length_map,HNG.out] at this;exact this
       clear hb1 hb2 hb3
       go_wp2_with fail
       refine HN1.out.mono ?_
       rintro e w1 ⟨rfl,hq1⟩
       have HQ1:=Lib.hid hq1
       clear hq1
       cases b1 with
       | false =>
        have HF:=Lib.hid (HFIN.out false w1 HRR.out (HBLA3.out.trans (HQ1.out.mono HBLA3.out.size)))
        go_wp2_with fail
        first | exact HF.out | (go_ret;exact HF.out)
       | true =>
        go_wp2_with fail
        refine (HN2.out _ HQ1.out).mono ?_
        rintro e w2 ⟨rfl,hq2⟩
        have HQ2:=Lib.hid (HQ1.out.trans (hq2.mono HQ1.out.size))
        clear hq2
        cases b2 with
        | false =>
         have HF:=Lib.hid (HFIN.out false w2 HRR.out (HBLA3.out.trans (HQ2.out.mono HBLA3.out.size)))
         go_wp2_with fail
         first | exact HF.out | (go_ret;exact HF.out)
        | true =>
         go_wp2_with fail
         refine (HN3.out _ HQ2.out).mono ?_
         rintro e w3 ⟨rfl,hq3⟩
         have HQ3:=Lib.hid (HQ2.out.trans (hq3.mono HQ2.out.size))
         clear hq3
         have HF:=Lib.hid (HFIN.out b3 w3 (by rw [HRR.out];rfl) (HBLA3.out.trans (HQ3.out.mono HBLA3.out.size)))
         go_wp2_with fail
         first | exact HF.out | (go_ret;exact HF.out)
end Go.Proofs.YtcnjenlojnognaaGreat
/- What is proved: a contract of the document's fault. Conditions: the campaign, which is valid, the plan and the launch lie in memory; no day of the plan runs over. -/
namespace Go.Proofs.YtcnjenlojnognaaGreat
open Go.RowKit

theorem any_false {α:Type} {l:List α} {q:α→Bool} {d:α} (h:∀ i,i<l.length→q (l.getD i d)=false):l.any q=false:=by
 rw [← any_list l q d]
 have:(allN l.length fun i=>!q (l.getD i d))=true:=allN_iff.2 fun i hi=>by rw [h i hi];rfl
 rw [this];rfl
theorem any_true {α:Type} {l:List α} {q:α→Bool} {d:α} {i:Nat} (hi:i<l.length) (h:q (l.getD i d)=true):l.any q=true:=by
 rw [List.any_eq_true]
 exact ⟨l.getD i d,getD_in _ _ hi,h⟩
set_option maxRecDepth 100000 in
set_option maxHeartbeats 16000000 in
theorem refFault_any (w:World) (V:CV) (c:CampD) (h:CampAt w w.heap.size V c) (hc:campB c=true) (l:List LaunchD) (AL:Option Addr) (cL:Nat) (hp:PlanAt w w.heap.size AL l) (hd:∀ y ∈ l,DayOk y) (x:LaunchD) (A:Option Addr) (cl:Nat) (hl:IntsAt w w.heap.size A x.cargos) :
  Calls Tryz.prog 38 #[.agg (campA V c),.slice AL l.length cL,.agg (launchA x A cl)] w fun e w'=>e=.returned (.int .i64 (faultB c l x))∧Below w.heap.size w w':=by
 obtain ⟨qb,hqb⟩:∃ qb,w.heap.size=qb:=⟨_,rfl⟩
 obtain ⟨W0,hW0⟩:∃ W0,(w.alloc (.cells (campA V c) 26)).alloc (.cells (launchA x A cl) 52)=W0:=⟨_,rfl⟩
 have hb0:Below w.heap.size w W0:=by rw [← hW0];exact ((Below.refl _ w).alloc (Nat.le_refl _) _).alloc (by simp) _
 have HB0:Hid (Below qb w W0):=Lib.hid (by rw [← hqb];exact hb0)
 have HKC:Hid (Bk W0 qb 26 (campA V c)):=Lib.hid (by rw [← hW0,← hqb];exact (Bk.new _ _ _).alloc _)
 have HKL:Hid (Bk W0 (qb+1) 52 (launchA x A cl)):=Lib.hid (by rw [← hW0,← hqb];exact Bk.newAt _ _ _ _ (by simp))
 have HSZ:Hid (qb≤W0.heap.size):=Lib.hid (by have:=HKL.out.lt;omega)
 have HCA:=Lib.hid (h.later hb0)
 have HPA:=Lib.hid (hp.later hb0)
 have HLA:=Lib.hid (hl.later hb0)
 have HD:=Lib.hid hd
 obtain ⟨R,hR⟩:∃ R,faultB c l x=R:=⟨_,rfl⟩
 have HR:=Lib.hid hR
 obtain ⟨PQ,hPQ⟩:∃ Q,(fun (e:Ending) (w':World)=>e=.returned (.int .i64 R)∧Below w.heap.size w w')=Q:=⟨_,rfl⟩
 have HFIN:Hid (∀ (z:Int) (w':World),R=z→Below W0.heap.size W0 w'→PQ (.returned (.int .i64 z)) w'):=Lib.hid fun z w' h1 h2=>by rw [← hPQ,h1,hqb];exact ⟨rfl,HB0.out.trans (h2.mono HSZ.out)⟩
 have hll:=hp.len
 have hxl:=hl.1
 obtain ⟨nl,hnl⟩:∃ nl,l.length=nl:=⟨_,rfl⟩
 obtain ⟨nx,hnx⟩:∃ nx,x.cargos.length=nx:=⟨_,rfl⟩
 have HNL:=Lib.hid hnl
 have HNX:=Lib.hid hnx
 have HCAMP:=Lib.hid hc
 obtain ⟨bp,hbp⟩:∃ b,possB c x=b:=⟨_,rfl⟩
 have HBP:=Lib.hid hbp
 have hpos:=refPossible_any W0 V c HCA.out hc x A cl HLA.out
 rw [hbp] at hpos
 have HPOS:=Lib.hid hpos
 rw [hnl] at hll ⊢
 rw [hnx] at hxl
 rw [hR,hPQ]
 have HLC:Hid (∀ w1,Below W0.heap.size W0 w1→∀ j u,(campA V c)[j]?=some u→w1.cell? ⟨qb,0+j,none⟩=some u):=Lib.hid fun w1 hb j u hj=>by rw [Nat.zero_add,(HKC.out.below hb HKC.out.lt).cell];exact hj
 have HLX:Hid (∀ w1,Below W0.heap.size W0 w1→∀ j u,(launchA x A cl)[j]?=some u→w1.cell? ⟨qb+1,0+j,none⟩=some u):=Lib.hid fun w1 hb j u hj=>by rw [Nat.zero_add,(HKL.out.below hb HKL.out.lt).cell];exact hj
 have HLC0:=Lib.hid (HLC.out W0 (Below.refl _ _))
 have HLX0:=Lib.hid (HLX.out W0 (Below.refl _ _))
 clear h hp hl hd hb0 hR hnl hc hbp hpos hPQ hnx
 cases bp with
 | false =>
  have HRR:Hid (R=2):=Lib.hid (by rw [← HR.out];unfold faultB;rw [if_pos HBP.out])
  simp only [campA,launchA] at hW0 ⊢
  go_enter Tryz.func38,Tryz.ntmps38
  go_upto_region 1 with (fail)
  clear hW0 hqb
  go_wp2_with (first | (refine wpLoadAt rfl 26 _ rfl qb 0 rfl (campA V c) _ HLC0.out und_camp rfl (info_campA V c) ?_) | (refine wpLoadAt rfl 52 _ rfl (qb+1) 0 rfl (launchA x A cl) _ HLX0.out und_launch rfl info_launch ?_))
  refine HPOS.out.mono ?_
  rintro e w1 ⟨rfl,hb1⟩
  have HF:=Lib.hid (HFIN.out _ _ HRR.out hb1)
  clear hb1
  go_wp2_with fail
  first | exact HF.out | (go_ret;exact HF.out)
 | true =>
 have hpp:=possB_parts HBP.out
 obtain ⟨ic,hic⟩:∃ ic:Nat,x.craft=(ic:Int):=⟨x.craft.toNat,by have:=hpp.1;omega⟩
 obtain ⟨ip,hip⟩:∃ ip:Nat,x.pad=(ip:Int):=⟨x.pad.toNat,by have:=hpp.2.2.1;omega⟩
 have hicn:ic<c.crafts.length:=by have:=hpp.2.1;omega
 have hipn:ip<c.pads.length:=by have:=hpp.2.2.2.1;omega
 have HIC:=Lib.hid hic
 have HIP:=Lib.hid hip
 obtain ⟨nc,hnc⟩:∃ nc,c.crafts.length=nc:=⟨_,rfl⟩
 obtain ⟨np,hnp⟩:∃ np,c.pads.length=np:=⟨_,rfl⟩
 have hn3:nc≤3:=by have:=camp_len HCAMP.out;omega
 have hn2:np≤2:=by have:=camp_len HCAMP.out;omega
 obtain ⟨ag,hag⟩:∃ ag,(c.craftN ic).again=ag:=⟨_,rfl⟩
 obtain ⟨cn,hcn⟩:∃ cn,(c.padN ip).clean=cn:=⟨_,rfl⟩
 have HAG:Hid ((c.craft x.craft).again=ag):=Lib.hid (by rw [hic];exact hag)
 have HCN:Hid ((c.pad x.pad).clean=cn):=Lib.hid (by rw [hip];exact hcn)
 obtain ⟨cb,co,hcA,hcb,_,_,_,g3⟩:=Sl.at4 HCA.out.crafts (i:=ic) hicn
 obtain ⟨pb,po,hpA,hpb,_,g1,_⟩:=Sl.at3 HCA.out.pads (i:=ip) hipn
 dsimp only [craftC] at g3
 dsimp only [padC] at g1
 rw [hag] at g3
 rw [hcn] at g1
 obtain ⟨xd,hxd⟩:∃ d,x.day=d:=⟨_,rfl⟩
 have HXD:=Lib.hid hxd
 have HC:Hid (∀ w1,Below W0.heap.size W0 w1→w1.cell? ⟨qb,0,none⟩=some (.slice (some ⟨cb,co,none⟩) nc V.cc)∧w1.cell? ⟨qb,1,none⟩=some (.slice (some ⟨pb,po,none⟩) np V.pc) ∧
   w1.cell? ⟨qb+1,0,none⟩=some (.int .i64 xd)∧w1.cell? ⟨qb+1,1,none⟩=some (.int .i64 (ic:Int))∧w1.cell? ⟨qb+1,2,none⟩=some (.int .i64 (ip:Int))∧w1.cell? ⟨qb+1,3,none⟩=some (.slice A nx cl)∧w1.cell? ⟨cb,co+ic * 4+3,none⟩=some (.int .i64 ag)∧w1.cell? ⟨pb,po+ip * 3+1,none⟩=some (.int .i64 cn)):=Lib.hid fun w1 hb=>by
  have k1:=HKC.out.below hb HKC.out.lt
  have k2:=HKL.out.below hb HKL.out.lt
  rw [← hnc,← hnp,← hcA,← hpA,← hic,← hip,← hxd,← HNX.out]
  exact ⟨k1.cell 0,k1.cell 1,k2.cell 0,k2.cell 1,k2.cell 2,k2.cell 3,(hb.cell (p:=⟨cb,co+ic * 4+3,none⟩) hcb).trans g3,(hb.cell (p:=⟨pb,po+ip * 3+1,none⟩) hpb).trans g1⟩
 have hici:(ic:Int)<(nc:Int):=by omega
 have hipi:(ip:Int)<(np:Int):=by omega
 have hicN:ic<nc:=by omega
 have hipN:ip<np:=by omega
 have h0ic:(0:Int)≤(ic:Int):=by omega
 have h0ip:(0:Int)≤(ip:Int):=by omega
 have hnx6:nx≤6:=by have:=rise_len hpp.2.2.2.2.2.2.2.2.1;have:=camp_len HCAMP.out;have:=HNX.out;omega
 have ha0:0≤ag∧ag≤10000:=by have:=camp_craft HCAMP.out x.craft;rw [HAG.out] at this;omega
 have hc0:0≤cn∧cn≤10000:=by have:=camp_pad HCAMP.out x.pad;rw [HCN.out] at this;omega
 have HA0:=Lib.hid ha0
 have HC0:=Lib.hid hc0
 clear hpp hic hip hnc hnp hag hcn hcA hpA g1 g3 hicn hipn hcb hpb hxd ha0 hc0
 obtain ⟨t0,ht0⟩:∃ b,decide (0<l.length∧0≤cmpL (l.getD (l.length - 1) launch0) x)=b:=⟨_,rfl⟩
 obtain ⟨t1,ht1⟩:∃ b,(l.any fun y=>x.cargos.any fun i=>y.cargos.contains i)=b:=⟨_,rfl⟩
 obtain ⟨t2,ht2⟩:∃ b,(l.any fun y=>decide (y.craft=x.craft) && (decide (ag=0) || decide (x.day<y.day+ag)))=b:=⟨_,rfl⟩
 obtain ⟨t3,ht3⟩:∃ b,(l.any fun y=>decide (y.pad=x.pad) && decide (x.day<y.day+cn))=b:=⟨_,rfl⟩
 have HRR:Hid (R=if t0=true then 21 else if t1=true then 8 else if t2=true then 9 else if t3=true then 6 else 0):=Lib.hid (by
  rw [← HR.out]
  unfold faultB
  rw [if_neg (by rw [HBP.out];decide),HAG.out,HCN.out,ht1,ht2,ht3]
  by_cases hh:0<l.length∧0≤cmpL (l.getD (l.length - 1) launch0) x
  ·rw [if_pos hh]
   have e:t0=true:=by rw [← ht0];exact decide_eq_true hh
   rw [e,if_pos rfl]
  ·rw [if_neg hh]
   have e:t0=false:=by rw [← ht0];exact decide_eq_false hh
   rw [e,if_neg Bool.false_ne_true])
 have HT0:=Lib.hid ht0
 have HT1:=Lib.hid ht1
 have HT2:=Lib.hid ht2
 have HT3:=Lib.hid ht3
 clear ht0 ht1 ht2 ht3
 have HXI:Hid (x.craft=(ic:Int)∧x.pad=(ip:Int)):=Lib.hid ⟨HIC.out,HIP.out⟩
 simp only [campA,launchA] at hW0 ⊢
 go_enter Tryz.func38,Tryz.ntmps38
 go_upto_region 1 with (fail)
 clear hW0 hqb
 go_wp2_with (first | (refine wpLoadAt rfl 26 _ rfl qb 0 rfl (campA V c) _ HLC0.out und_camp rfl (info_campA V c) ?_) | (refine wpLoadAt rfl 52 _ rfl (qb+1) 0 rfl (launchA x A cl) _ HLX0.out und_launch rfl info_launch ?_))
 refine HPOS.out.mono ?_
 rintro e W1 ⟨rfl,hb1⟩
 have HB1:=Lib.hid hb1
 clear hb1
 go_upto_region 3 with (fail)
 rcases Nat.eq_zero_or_pos nl with hz | hz
 ·subst hz
  have HF:Hid (t0=false∧t1=false∧t2=false∧t3=false):=Lib.hid (by
   have e:=List.length_eq_zero_iff.1 HNL.out
   refine ⟨?_,?_,?_,?_⟩
   ·rw [← HT0.out,e];rfl
   ·rw [← HT1.out,e];rfl
   ·rw [← HT2.out,e];rfl
   ·rw [← HT3.out,e];rfl)
  refine wp_region_steps (by kernel_rfl) (by kernel_rfl) (fun w1=>Below W1.heap.size W1 w1) (fun _ _ _=>True)
   (fun ix u _ _=>match ix with
    | 0=>u=.slice AL 0 cL
    | 1=>u=.int .i64 0
    | 2=>u=.bool false
    | 3=>u=.bool false
    | 4=>u=undef
    | 5=>u=undef
    | 6=>u=undef
    | 7=>u=undef
    | 8=>u=undef
    | 9=>u=undef
    | 10=>u=undef
    | 11=>u=undef
    | 12=>u=undef
    | _=>u=.bool false) (Below.refl _ _).drew (fun _ _ _ _ _ _ _ _ h _ _=>h) ?_ ?_
  ·refine ⟨?_,?_,?_,?_,?_,?_,?_,?_,?_,?_,?_,?_,?_,?_,trivial⟩
   ·intro a w1 vs K HJ HK HD HN kk
    have e1:=HK 1 (by decide)
    go_simp;exact kk _ _ (by simp) HJ trivial rfl
   ·intro a w1 vs K HJ HK HD HN kk
    have e16:=hdE (HD 0 _ 16 rfl rfl rfl)
    go_simp;exact kk _ _ (by simp) HJ trivial rfl
   ·intro a w1 vs K HJ HK HD HN kk
    have e17:=hdE (HD 1 _ 17 rfl rfl rfl)
    go_simp;exact kk _ _ (by simp) HJ trivial rfl
   ·intro a w1 vs K HJ HK HD HN kk
    have e18:=hdE (HD 2 _ 18 rfl rfl rfl)
    go_simp;exact kk _ _ (by simp) HJ trivial rfl
   ·intro a w1 vs K HJ HK HD HN kk
    have e19:=hdE (HD 3 _ 19 rfl rfl rfl)
    rw [if_neg (wanted_no 3 true rfl rfl rfl e19)]
    exact kk undef _ (by simp) HJ trivial rfl
   ·intro a w1 vs K HJ HK HD HN kk
    have e19:=hdE (HD 3 _ 19 rfl rfl rfl)
    rw [if_neg (wanted_no 3 true rfl rfl rfl e19)]
    exact kk undef _ (by simp) HJ trivial rfl
   ·intro a w1 vs K HJ HK HD HN kk
    have e19:=hdE (HD 3 _ 19 rfl rfl rfl)
    rw [if_neg (wanted_no 3 true rfl rfl rfl e19)]
    exact kk undef _ (by simp) HJ trivial rfl
   ·intro a w1 vs K HJ HK HD HN kk
    have e19:=hdE (HD 3 _ 19 rfl rfl rfl)
    rw [if_neg (wanted_no 3 true rfl rfl rfl e19)]
    exact kk undef _ (by simp) HJ trivial rfl
   ·intro a w1 vs K HJ HK HD HN kk
    have e19:=hdE (HD 3 _ 19 rfl rfl rfl)
    rw [if_neg (wanted_no 3 true rfl rfl rfl e19)]
    exact kk undef _ (by simp) HJ trivial rfl
   ·intro a w1 vs K HJ HK HD HN kk
    have e19:=hdE (HD 3 _ 19 rfl rfl rfl)
    rw [if_neg (wanted_no 3 true rfl rfl rfl e19)]
    exact kk undef _ (by simp) HJ trivial rfl
   ·intro a w1 vs K HJ HK HD HN kk
    have e19:=hdE (HD 3 _ 19 rfl rfl rfl)
    rw [if_neg (wanted_no 3 true rfl rfl rfl e19)]
    exact kk undef _ (by simp) HJ trivial rfl
   ·intro a w1 vs K HJ HK HD HN kk
    have e19:=hdE (HD 3 _ 19 rfl rfl rfl)
    rw [if_neg (wanted_no 3 true rfl rfl rfl e19)]
    exact kk undef _ (by simp) HJ trivial rfl
   ·intro a w1 vs K HJ HK HD HN kk
    have e19:=hdE (HD 3 _ 19 rfl rfl rfl)
    rw [if_neg (wanted_no 3 true rfl rfl rfl e19)]
    exact kk undef _ (by simp) HJ trivial rfl
   ·intro a w1 vs K HJ HK HD HN kk
    have e19:=hdE (HD 3 _ 19 rfl rfl rfl)
    have e28:=hdE (HD 12 _ 28 rfl rfl rfl)
    go_simp;exact kk _ _ (by simp) HJ trivial rfl
  ·intro vs W2 hw6 hrr
   have e13:vs 13=.bool false:=hrr 13 _ rfl
   have HF2:=Lib.hid (HFIN.out 0 W2 (by rw [HRR.out,HF.out.1,HF.out.2.1,HF.out.2.2.1,HF.out.2.2.2];rfl) (HB1.out.trans (Below.mono hw6 HB1.out.size)))
   clear hrr hw6
   simp only [putAll,Act.put,List.setIfInBounds_toArray,List.set_cons_zero,List.set_cons_succ]
   rw [e13]
   go_wp2_with fail
   go_loopw [7] (fun iv wr=>iv=.int .i64 0∧wr=W2) (fun _ _=>0)
   case atStart=>exact ⟨rfl,rfl⟩
   case round =>
    obtain ⟨rfl,rfl⟩:=hrel
    go_wp2_with fail
    go_loopw [9] (fun iv w9=>iv=.int .i64 0∧w9=wr) (fun _ _=>0)
    case atStart=>exact ⟨rfl,rfl⟩
    case round =>
     obtain ⟨rfl,rfl⟩:=hrel
     go_wp2_with fail
     go_loopw [11] (fun iv w9=>iv=.int .i64 0∧w9=wr) (fun _ _=>0)
     case atStart=>exact ⟨rfl,rfl⟩
     case round =>
      obtain ⟨rfl,rfl⟩:=hrel
      go_wp2_with fail
      first | exact HF2.out | (go_ret;exact HF2.out)
 have HPOSN:=Lib.hid hz
 obtain ⟨m,hm⟩:∃ m,nl=m+1:=⟨nl - 1,by omega⟩
 have hmn:m<nl:=by omega
 have hmi:(m:Int)<(nl:Int):=by omega
 have h0m:(0:Int)≤(m:Int):=by omega
 have HWS:Hid (IntKind.i64.wrap ((nl:Int) - 1)=(m:Int)):=Lib.hid (by rw [IntWalk.i64_in _ (by omega)];omega)
 have HGT:Hid ((0:Int)<(nl:Int)):=Lib.hid (by omega)
 have HGT2:Hid (0<nl):=Lib.hid hz
 obtain ⟨lb,lo,hAL,hlb,hlc⟩:∃ lb lo,AL=some ⟨lb,lo,none⟩∧lb<W0.heap.size∧∀ i,i<nl→∃ P Q,(∀ j u,(launchA (l.getD i launch0) P Q)[j]?=some u→W0.cell? ⟨lb,lo+i * 4+j,none⟩=some u)∧IntsAt W0 W0.heap.size P (l.getD i launch0).cargos:=by
  obtain ⟨P,Q,h1,h2⟩:=HPA.out.sl
  obtain ⟨b,off,e,hB,_⟩:=h1.2 (by rw [HNL.out];exact hz)
  refine ⟨b,off,e,hB,fun i hi=>?_⟩
  obtain ⟨b',off',P',Q',e',_,hc',hl'⟩:=HPA.out.at (i:=i) (by rw [HNL.out];exact hi)
  rw [e] at e'
  injection e' with e'
  injection e' with e1 e2 _
  subst e1 e2
  exact ⟨P',Q',hc',hl'⟩
 subst hAL
 have HLL:Hid (∀ i,i<nl→∃ P Q,∀ w1,Below W0.heap.size W0 w1→(∀ j u,(launchA (l.getD i launch0) P Q)[j]?=some u→w1.cell? ⟨lb,lo+i * 4+j,none⟩=some u)∧IntsAt w1 w1.heap.size P (l.getD i launch0).cargos):=Lib.hid fun i hi=>by
  obtain ⟨P,Q,h1,h2⟩:=hlc i hi
  exact ⟨P,Q,fun w1 hb=>⟨fun j u hj=>(hb.cell (p:=⟨lb,lo+i * 4+j,none⟩) hlb).trans (h1 j u hj),h2.later hb⟩⟩
 clear hlc
 obtain ⟨LP,LQ,hlast⟩:=HLL.out m hmn
 have HLAST:=Lib.hid hlast
 obtain ⟨y,hy⟩:∃ y,l.getD m launch0=y:=⟨_,rfl⟩
 rw [hy] at HLAST
 obtain ⟨z,hzz⟩:∃ z,cmpL y x=z:=⟨_,rfl⟩
 have HT0':Hid (t0=decide (0≤z)):=Lib.hid (by
  rw [← HT0.out,HNL.out,show nl - 1=m from by omega,hy,hzz]
  by_cases h9:0≤z
  ·rw [decide_eq_true h9,decide_eq_true ⟨hz,h9⟩]
  ·rw [decide_eq_false h9,decide_eq_false fun h=>h9 h.2])
 have HCM:Hid (∀ w1,Below W0.heap.size W0 w1→Calls Tryz.prog 67 #[.agg (launchA y LP LQ),.agg (launchA x A cl)] w1 fun e w'=>e=.returned (.int .i64 z)∧Below w1.heap.size w1 w'):=Lib.hid fun w1 hb=>by
  rw [← hzz]
  exact refCompare_any w1 y x LP A LQ cl (HLAST.out w1 hb).2 (HLA.out.later hb)
 have HW1:Hid (∀ w1,Below W1.heap.size W1 w1→Below W0.heap.size W0 w1):=Lib.hid fun w1 hb=>HB1.out.trans (hb.mono HB1.out.size)
 clear hlast hy hzz hm
 by_cases hz0:0≤z
 case pos =>
  have HZ:Hid (0≤z):=Lib.hid hz0
  have HRF:Hid (R=21):=Lib.hid (by rw [HRR.out,HT0'.out,decide_eq_true hz0];rfl)
  clear hz0
  refine wp_region_steps (by kernel_rfl) (by kernel_rfl) (fun w1=>Below W1.heap.size W1 w1) (fun _ _ _=>True)
   (fun ix u _ _=>match ix with
    | 0=>u=.slice (some ⟨lb,lo,none⟩) nl cL
    | 1=>u=.int .i64 nl
    | 2=>u=.bool true
    | 3=>u=.bool true
    | 4=>u=.slice (some ⟨lb,lo,none⟩) nl cL
    | 5=>u=.slice (some ⟨lb,lo,none⟩) nl cL
    | 6=>u=.int .i64 nl
    | 7=>u=.int .i64 (m:Int)
    | 8=>u=.pointer (some ⟨lb,lo+m * 4,none⟩)
    | 9=>u=.agg (launchA y LP LQ)
    | 10=>u=.agg (launchA x A cl)
    | 11=>u=.int .i64 z
    | 12=>u=.bool true
    | _=>u=.bool true) (Below.refl _ _).drew (fun _ _ _ _ _ _ _ _ h _ _=>h) ?_ ?_
  ·refine ⟨?_,?_,?_,?_,?_,?_,?_,?_,?_,?_,?_,?_,?_,?_,trivial⟩
   ·intro a w1 vs K HJ HK HD HN kk
    have e1:=HK 1 (by decide)
    go_simp;exact kk _ _ (by simp) HJ trivial rfl
   ·intro a w1 vs K HJ HK HD HN kk
    have e16:=hdE (HD 0 _ 16 rfl rfl rfl)
    go_simp;exact kk _ _ (by simp) HJ trivial rfl
   ·intro a w1 vs K HJ HK HD HN kk
    have e17:=hdE (HD 1 _ 17 rfl rfl rfl)
    have h1:=HGT.out
    have h2:=HGT2.out
    go_simp;exact kk _ _ (by simp) HJ trivial rfl
   ·intro a w1 vs K HJ HK HD HN kk
    have e18:=hdE (HD 2 _ 18 rfl rfl rfl)
    go_simp;exact kk _ _ (by simp) HJ trivial rfl
   ·intro a w1 vs K HJ HK HD HN kk
    have e19:=hdE (HD 3 _ 19 rfl rfl rfl)
    rw [if_pos (wanted_yes 3 true rfl rfl rfl e19)]
    have e1:=HK 1 (by decide)
    go_simp;exact kk _ _ (by simp) HJ trivial rfl
   ·intro a w1 vs K HJ HK HD HN kk
    have e19:=hdE (HD 3 _ 19 rfl rfl rfl)
    rw [if_pos (wanted_yes 3 true rfl rfl rfl e19)]
    have e1:=HK 1 (by decide)
    go_simp;exact kk _ _ (by simp) HJ trivial rfl
   ·intro a w1 vs K HJ HK HD HN kk
    have e19:=hdE (HD 3 _ 19 rfl rfl rfl)
    rw [if_pos (wanted_yes 3 true rfl rfl rfl e19)]
    have e21:=hdE (HD 5 _ 21 rfl rfl rfl)
    go_simp;exact kk _ _ (by simp) HJ trivial rfl
   ·intro a w1 vs K HJ HK HD HN kk
    have e19:=hdE (HD 3 _ 19 rfl rfl rfl)
    rw [if_pos (wanted_yes 3 true rfl rfl rfl e19)]
    have e22:=hdE (HD 6 _ 22 rfl rfl rfl)
    have hws:=HWS.out
    go_simp;exact kk _ _ (by simp) HJ trivial rfl
   ·intro a w1 vs K HJ HK HD HN kk
    have e19:=hdE (HD 3 _ 19 rfl rfl rfl)
    rw [if_pos (wanted_yes 3 true rfl rfl rfl e19)]
    have e20:=hdE (HD 4 _ 20 rfl rfl rfl)
    have e23:=hdE (HD 7 _ 23 rfl rfl rfl)
    go_simp;exact kk _ _ (by simp) HJ trivial rfl
   ·intro a w1 vs K HJ HK HD HN kk
    have e19:=hdE (HD 3 _ 19 rfl rfl rfl)
    rw [if_pos (wanted_yes 3 true rfl rfl rfl e19)]
    have e24:=hdE (HD 8 _ 24 rfl rfl rfl)
    exact wpo_loadS 52 (.tmp 24) rfl lb (lo+m * 4) (by simpa [Act.eval] using e24) (launchA y LP LQ) _ ((HLAST.out w1 (HW1.out w1 HJ)).1) und_launch rfl info_launch (kk _ _ (by simp) HJ trivial rfl)
   ·intro a w1 vs K HJ HK HD HN kk
    have e19:=hdE (HD 3 _ 19 rfl rfl rfl)
    rw [if_pos (wanted_yes 3 true rfl rfl rfl e19)]
    have e5:=HK 5 (by decide)
    exact wpo_loadS 52 (.tmp 5) rfl (qb+1) 0 (by simpa [Act.eval] using e5) (launchA x A cl) _ (HLX.out w1 (HW1.out w1 HJ)) und_launch rfl info_launch (kk _ _ (by simp) HJ trivial rfl)
   ·intro a w1 vs K HJ HK HD HN kk
    have e19:=hdE (HD 3 _ 19 rfl rfl rfl)
    rw [if_pos (wanted_yes 3 true rfl rfl rfl e19)]
    have e25:=hdE (HD 9 _ 25 rfl rfl rfl)
    have e26:=hdE (HD 10 _ 26 rfl rfl rfl)
    exact wpo_call 67 _ _ rfl #[.agg (launchA y LP LQ),.agg (launchA x A cl)] (by simp [Act.eval,e25,e26]) (fun args w=>by kernel_rfl)
     ((HCM.out w1 (HW1.out w1 HJ)).mono fun e w' ⟨he,hb⟩=>⟨_,he,kk _ _ (by simp) (Below.trans HJ (hb.mono HJ.size)) trivial rfl⟩)
   ·intro a w1 vs K HJ HK HD HN kk
    have e19:=hdE (HD 3 _ 19 rfl rfl rfl)
    rw [if_pos (wanted_yes 3 true rfl rfl rfl e19)]
    have e27:=hdE (HD 11 _ 27 rfl rfl rfl)
    have hz:=HZ.out
    go_simp;exact kk _ _ (by simp) HJ trivial rfl
   ·intro a w1 vs K HJ HK HD HN kk
    have e19:=hdE (HD 3 _ 19 rfl rfl rfl)
    have e28:=hdE (HD 12 _ 28 rfl rfl rfl)
    go_simp;exact kk _ _ (by simp) HJ trivial rfl
  ·intro vs W2 hw6 hrr
   have e13:vs 13=.bool true:=hrr 13 _ rfl
   have HF2:=Lib.hid (HFIN.out _ W2 HRF.out (HW1.out _ hw6))
   clear hrr hw6
   simp only [putAll,Act.put,List.setIfInBounds_toArray,List.set_cons_zero,List.set_cons_succ]
   rw [e13]
   go_wp2_with fail
   first | exact HF2.out | (go_ret;exact HF2.out)
 case neg =>
  have HZ:Hid (¬ 0≤z):=Lib.hid hz0
  have HT0F:Hid (t0=false):=Lib.hid (by rw [HT0'.out,decide_eq_false hz0])
  clear hz0
  refine wp_region_steps (by kernel_rfl) (by kernel_rfl) (fun w1=>Below W1.heap.size W1 w1) (fun _ _ _=>True)
   (fun ix u _ _=>match ix with
    | 0=>u=.slice (some ⟨lb,lo,none⟩) nl cL
    | 1=>u=.int .i64 nl
    | 2=>u=.bool true
    | 3=>u=.bool true
    | 4=>u=.slice (some ⟨lb,lo,none⟩) nl cL
    | 5=>u=.slice (some ⟨lb,lo,none⟩) nl cL
    | 6=>u=.int .i64 nl
    | 7=>u=.int .i64 (m:Int)
    | 8=>u=.pointer (some ⟨lb,lo+m * 4,none⟩)
    | 9=>u=.agg (launchA y LP LQ)
    | 10=>u=.agg (launchA x A cl)
    | 11=>u=.int .i64 z
    | 12=>u=.bool false
    | _=>u=.bool false) (Below.refl _ _).drew (fun _ _ _ _ _ _ _ _ h _ _=>h) ?_ ?_
  ·refine ⟨?_,?_,?_,?_,?_,?_,?_,?_,?_,?_,?_,?_,?_,?_,trivial⟩
   ·intro a w1 vs K HJ HK HD HN kk
    have e1:=HK 1 (by decide)
    go_simp;exact kk _ _ (by simp) HJ trivial rfl
   ·intro a w1 vs K HJ HK HD HN kk
    have e16:=hdE (HD 0 _ 16 rfl rfl rfl)
    go_simp;exact kk _ _ (by simp) HJ trivial rfl
   ·intro a w1 vs K HJ HK HD HN kk
    have e17:=hdE (HD 1 _ 17 rfl rfl rfl)
    have h1:=HGT.out
    have h2:=HGT2.out
    go_simp;exact kk _ _ (by simp) HJ trivial rfl
   ·intro a w1 vs K HJ HK HD HN kk
    have e18:=hdE (HD 2 _ 18 rfl rfl rfl)
    go_simp;exact kk _ _ (by simp) HJ trivial rfl
   ·intro a w1 vs K HJ HK HD HN kk
    have e19:=hdE (HD 3 _ 19 rfl rfl rfl)
    rw [if_pos (wanted_yes 3 true rfl rfl rfl e19)]
    have e1:=HK 1 (by decide)
    go_simp;exact kk _ _ (by simp) HJ trivial rfl
   ·intro a w1 vs K HJ HK HD HN kk
    have e19:=hdE (HD 3 _ 19 rfl rfl rfl)
    rw [if_pos (wanted_yes 3 true rfl rfl rfl e19)]
    have e1:=HK 1 (by decide)
    go_simp;exact kk _ _ (by simp) HJ trivial rfl
   ·intro a w1 vs K HJ HK HD HN kk
    have e19:=hdE (HD 3 _ 19 rfl rfl rfl)
    rw [if_pos (wanted_yes 3 true rfl rfl rfl e19)]
    have e21:=hdE (HD 5 _ 21 rfl rfl rfl)
    go_simp;exact kk _ _ (by simp) HJ trivial rfl
   ·intro a w1 vs K HJ HK HD HN kk
    have e19:=hdE (HD 3 _ 19 rfl rfl rfl)
    rw [if_pos (wanted_yes 3 true rfl rfl rfl e19)]
    have e22:=hdE (HD 6 _ 22 rfl rfl rfl)
    have hws:=HWS.out
    go_simp;exact kk _ _ (by simp) HJ trivial rfl
   ·intro a w1 vs K HJ HK HD HN kk
    have e19:=hdE (HD 3 _ 19 rfl rfl rfl)
    rw [if_pos (wanted_yes 3 true rfl rfl rfl e19)]
    have e20:=hdE (HD 4 _ 20 rfl rfl rfl)
    have e23:=hdE (HD 7 _ 23 rfl rfl rfl)
    go_simp;exact kk _ _ (by simp) HJ trivial rfl
   ·intro a w1 vs K HJ HK HD HN kk
    have e19:=hdE (HD 3 _ 19 rfl rfl rfl)
    rw [if_pos (wanted_yes 3 true rfl rfl rfl e19)]
    have e24:=hdE (HD 8 _ 24 rfl rfl rfl)
    exact wpo_loadS 52 (.tmp 24) rfl lb (lo+m * 4) (by simpa [Act.eval] using e24) (launchA y LP LQ) _ ((HLAST.out w1 (HW1.out w1 HJ)).1) und_launch rfl info_launch (kk _ _ (by simp) HJ trivial rfl)
   ·intro a w1 vs K HJ HK HD HN kk
    have e19:=hdE (HD 3 _ 19 rfl rfl rfl)
    rw [if_pos (wanted_yes 3 true rfl rfl rfl e19)]
    have e5:=HK 5 (by decide)
    exact wpo_loadS 52 (.tmp 5) rfl (qb+1) 0 (by simpa [Act.eval] using e5) (launchA x A cl) _ (HLX.out w1 (HW1.out w1 HJ)) und_launch rfl info_launch (kk _ _ (by simp) HJ trivial rfl)
   ·intro a w1 vs K HJ HK HD HN kk
    have e19:=hdE (HD 3 _ 19 rfl rfl rfl)
    rw [if_pos (wanted_yes 3 true rfl rfl rfl e19)]
    have e25:=hdE (HD 9 _ 25 rfl rfl rfl)
    have e26:=hdE (HD 10 _ 26 rfl rfl rfl)
    exact wpo_call 67 _ _ rfl #[.agg (launchA y LP LQ),.agg (launchA x A cl)] (by simp [Act.eval,e25,e26]) (fun args w=>by kernel_rfl)
     ((HCM.out w1 (HW1.out w1 HJ)).mono fun e w' ⟨he,hb⟩=>⟨_,he,kk _ _ (by simp) (Below.trans HJ (hb.mono HJ.size)) trivial rfl⟩)
   ·intro a w1 vs K HJ HK HD HN kk
    have e19:=hdE (HD 3 _ 19 rfl rfl rfl)
    rw [if_pos (wanted_yes 3 true rfl rfl rfl e19)]
    have e27:=hdE (HD 11 _ 27 rfl rfl rfl)
    have hz:=HZ.out
    go_simp;exact kk _ _ (by simp) HJ trivial rfl
   ·intro a w1 vs K HJ HK HD HN kk
    have e19:=hdE (HD 3 _ 19 rfl rfl rfl)
    have e28:=hdE (HD 12 _ 28 rfl rfl rfl)
    go_simp;exact kk _ _ (by simp) HJ trivial rfl
  ·intro vs W2 hw6 hrr
   have e13:vs 13=.bool false:=hrr 13 _ rfl
   have HB2:Hid (Below W0.heap.size W0 W2):=Lib.hid (HW1.out _ hw6)
   clear hrr hw6
   simp only [putAll,Act.put,List.setIfInBounds_toArray,List.set_cons_zero,List.set_cons_succ]
   rw [e13]
   clear hmn hmi h0m
   go_wp2_with fail
   go_loopw [7] (fun iv wr=>∃ i:Nat,i≤nl∧iv=.int .i64 i∧Hid (Below W0.heap.size W0 wr∧∀ a,a<i→(x.cargos.any fun k=>(l.getD a launch0).cargos.contains k)=false)) (fun iv _=>nl - (intOf iv).toNat)
   case atStart=>exact ⟨0,Nat.zero_le _,rfl,Lib.hid ⟨HB2.out,fun j hj=>absurd hj (Nat.not_lt_zero j)⟩⟩
   case round =>
    obtain ⟨wo,rfl⟩:∃ wo:World,wo=wr:=⟨_,rfl⟩
    obtain ⟨i,hi,rfl,hs⟩:=hrel
    have HB:=Lib.hid hs.out.1
    have HNO:=Lib.hid hs.out.2
    clear hs
    have h0i:(0:Int)≤(i:Int):=by omega
    by_cases hlt:i<nl
    case pos =>
     have hii:(i:Int)<(nl:Int):=by omega
     obtain ⟨YP,YQ,hyl⟩:=HLL.out i hlt
     obtain ⟨ny,hny⟩:∃ n,(l.getD i launch0).cargos.length=n:=⟨_,rfl⟩
     have HYL:Hid (∀ w1,Below W0.heap.size W0 w1→w1.cell? ⟨lb,lo+i * 4+3,none⟩=some (.slice YP ny YQ)∧∀ v,Calls Tryz.prog 86 #[.slice YP ny YQ,.int .i64 v] w1 fun e w'=>e=.returned (.bool ((l.getD i launch0).cargos.contains v))∧Below w1.heap.size w1 w'):=Lib.hid fun w1 hb=>by
      obtain ⟨h1,h2⟩:=hyl w1 hb
      refine ⟨by rw [← hny];exact h1 3 _ rfl,fun v=>?_⟩
      rw [← hny]
      exact (has_any w1 YP YQ _ v h2).mono fun e w' ⟨a,b⟩=>⟨a,by rw [b];exact Below.refl _ _⟩
     clear hyl hny
     go_wp2_with fail
     go_loopw [8] (fun kv wr=>∃ k:Nat,k≤nx∧kv=.int .i64 k∧Hid (Below W0.heap.size W0 wr∧∀ a,a<k→(l.getD i launch0).cargos.contains (numI x.cargos a)=false)) (fun kv _=>nx - (intOf kv).toNat)
     case atStart=>exact ⟨0,Nat.zero_le _,rfl,Lib.hid ⟨HB.out,fun j hj=>absurd hj (Nat.not_lt_zero j)⟩⟩
     case round =>
      obtain ⟨wi,rfl⟩:∃ wi:World,wi=wr:=⟨_,rfl⟩
      obtain ⟨k,hk,rfl,hs⟩:=hrel
      have HBI:=Lib.hid hs.out.1
      have HNI:=Lib.hid hs.out.2
      clear hs
      have h0k:(0:Int)≤(k:Int):=by omega
      obtain ⟨_,_,_,_,_,c3,_,_⟩:=HC.out wi HBI.out
      by_cases hkx:k<nx
      case pos =>
       have hki:(k:Int)<(nx:Int):=by omega
       obtain ⟨xb,xo,hA,hxb,hxc⟩:=HLA.out.2 (by rw [HNX.out];omega)
       subst hA
       obtain ⟨v,hv⟩:∃ v,numI x.cargos k=v:=⟨_,rfl⟩
       have HV:=Lib.hid hv
       have HWI:Hid (∀ w1,Below wi.heap.size wi w1→Below W0.heap.size W0 w1):=Lib.hid fun w1 hb=>HBI.out.trans (hb.mono HBI.out.size)
       have HCX:Hid (∀ w1,Below wi.heap.size wi w1→w1.cell? ⟨qb+1,3,none⟩=some (.slice (some ⟨xb,xo,none⟩) nx cl)∧w1.cell? ⟨xb,xo+k,none⟩=some (.int .i64 v)∧w1.cell? ⟨lb,lo+i * 4+3,none⟩=some (.slice YP ny YQ)):=Lib.hid fun w1 hb=>by
        have hb2:=HWI.out w1 hb
        obtain ⟨_,_,_,_,_,e3,_,_⟩:=HC.out w1 hb2
        refine ⟨e3,?_,(HYL.out w1 hb2).1⟩
        rw [hb2.cell (p:=⟨xb,xo+k,none⟩) hxb,← hv]
        have:=hxc k (by rw [HNX.out];exact hkx) 0 (by omega)
        simpa using this
       obtain ⟨hb9,hhb9⟩:∃ b,(l.getD i launch0).cargos.contains v=b:=⟨_,rfl⟩
       have HH:Hid (∀ w1,Below wi.heap.size wi w1→Calls Tryz.prog 86 #[.slice YP ny YQ,.int .i64 v] w1 fun e w'=>e=.returned (.bool hb9)∧Below w1.heap.size w1 w'):=Lib.hid fun w1 hb=>by
        rw [← hhb9];exact (HYL.out w1 (HWI.out w1 hb)).2 v
       have HHB:=Lib.hid hhb9
       clear hxc hv hhb9
       cases hb9 with
       | true =>
        have HRF:Hid (R=8):=Lib.hid (by
         have:t1=true:=by
          rw [← HT1.out]
          refine any_true (d:=launch0) (by rw [HNL.out];exact hlt) ?_
          refine any_true (d:=(0:Int)) (by rw [HNX.out];exact hkx) ?_
          rw [show x.cargos.getD k 0=v from HV.out];exact HHB.out
         rw [HRR.out,HT0F.out,this];rfl)
        go_upto_region 11 with (fail)
        clear c3
        refine wp_region_steps (by kernel_rfl) (by kernel_rfl) (fun w1=>Below wi.heap.size wi w1) (fun _ _ _=>True)
         (fun ix u _ _=>match ix with
          | 0=>u=.slice (some ⟨lb,lo,none⟩) nl cL
          | 1=>u=.int .i64 (i:Int)
          | 2=>u=.pointer (some ⟨lb,lo+i * 4,none⟩)
          | 3=>u=.pointer (some ⟨lb,lo+i * 4+3,none⟩)
          | 4=>u=.slice YP ny YQ
          | 5=>u=.pointer (some ⟨qb+1,3,none⟩)
          | 6=>u=.slice (some ⟨xb,xo,none⟩) nx cl
          | 7=>u=.int .i64 (k:Int)
          | 8=>u=.pointer (some ⟨xb,xo+k,none⟩)
          | 9=>u=.int .i64 v
          | _=>u=.bool true) (Below.refl _ _).drew (fun _ _ _ _ _ _ _ _ h _ _=>h) ?_ ?_
        ·refine ⟨?_,?_,?_,?_,?_,?_,?_,?_,?_,?_,?_,trivial⟩
         ·intro a w1 vs K HJ HK HD HN kk
          have e1:=HK 1 (by decide)
          go_simp;exact kk _ _ (by simp) HJ trivial rfl
         ·intro a w1 vs K HJ HK HD HN kk
          have e7:=HK 7 (by decide)
          go_simp;exact kk _ _ (by simp) HJ trivial rfl
         ·intro a w1 vs K HJ HK HD HN kk
          have e43:=hdE (HD 0 _ 43 rfl rfl rfl)
          have e44:=hdE (HD 1 _ 44 rfl rfl rfl)
          go_simp;exact kk _ _ (by simp) HJ trivial rfl
         ·intro a w1 vs K HJ HK HD HN kk
          have e45:=hdE (HD 2 _ 45 rfl rfl rfl)
          go_simp;exact kk _ _ (by simp) HJ trivial rfl
         ·intro a w1 vs K HJ HK HD HN kk
          have e46:=hdE (HD 3 _ 46 rfl rfl rfl)
          have ca:w1.cell? ⟨lb,lo+i * 4+3,none⟩=some (.slice YP ny YQ):=(HCX.out w1 HJ).2.2
          go_simp;exact kk _ _ (by simp) HJ trivial rfl
         ·intro a w1 vs K HJ HK HD HN kk
          have e5:=HK 5 (by decide)
          go_simp;exact kk _ _ (by simp) HJ trivial rfl
         ·intro a w1 vs K HJ HK HD HN kk
          have e48:=hdE (HD 5 _ 48 rfl rfl rfl)
          have ca:w1.cell? ⟨qb+1,3,none⟩=some (.slice (some ⟨xb,xo,none⟩) nx cl):=(HCX.out w1 HJ).1
          go_simp;exact kk _ _ (by simp) HJ trivial rfl
         ·intro a w1 vs K HJ HK HD HN kk
          have e8:=HK 8 (by decide)
          go_simp;exact kk _ _ (by simp) HJ trivial rfl
         ·intro a w1 vs K HJ HK HD HN kk
          have e49:=hdE (HD 6 _ 49 rfl rfl rfl)
          have e50:=hdE (HD 7 _ 50 rfl rfl rfl)
          go_simp;exact kk _ _ (by simp) HJ trivial rfl
         ·intro a w1 vs K HJ HK HD HN kk
          have e51:=hdE (HD 8 _ 51 rfl rfl rfl)
          have ca:w1.cell? ⟨xb,xo+k,none⟩=some (.int .i64 v):=(HCX.out w1 HJ).2.1
          go_simp;exact kk _ _ (by simp) HJ trivial rfl
         ·intro a w1 vs K HJ HK HD HN kk
          have e47:=hdE (HD 4 _ 47 rfl rfl rfl)
          have e52:=hdE (HD 9 _ 52 rfl rfl rfl)
          exact wpo_call 86 _ _ rfl #[.slice YP ny YQ,.int .i64 v] (by simp [Act.eval,e47,e52]) (fun args w=>by kernel_rfl)
           ((HH.out w1 HJ).mono fun e w' ⟨he,hb⟩=>⟨_,he,kk _ _ (by simp) (Below.trans HJ (hb.mono HJ.size)) trivial rfl⟩)
        ·intro vs W3 hw6 hrr
         have e10:vs 10=.bool true:=hrr 10 _ rfl
         have HF2:=Lib.hid (HFIN.out _ W3 HRF.out (HWI.out _ hw6))
         clear hrr hw6
         simp only [putAll,Act.put,List.setIfInBounds_toArray,List.set_cons_zero,List.set_cons_succ]
         rw [e10]
         go_wp2_with fail
         first | exact HF2.out | (go_ret;exact HF2.out)
       | false =>
        go_upto_region 11 with (fail)
        clear c3
        refine wp_region_steps (by kernel_rfl) (by kernel_rfl) (fun w1=>Below wi.heap.size wi w1) (fun _ _ _=>True)
         (fun ix u _ _=>match ix with
          | 0=>u=.slice (some ⟨lb,lo,none⟩) nl cL
          | 1=>u=.int .i64 (i:Int)
          | 2=>u=.pointer (some ⟨lb,lo+i * 4,none⟩)
          | 3=>u=.pointer (some ⟨lb,lo+i * 4+3,none⟩)
          | 4=>u=.slice YP ny YQ
          | 5=>u=.pointer (some ⟨qb+1,3,none⟩)
          | 6=>u=.slice (some ⟨xb,xo,none⟩) nx cl
          | 7=>u=.int .i64 (k:Int)
          | 8=>u=.pointer (some ⟨xb,xo+k,none⟩)
          | 9=>u=.int .i64 v
          | _=>u=.bool false) (Below.refl _ _).drew (fun _ _ _ _ _ _ _ _ h _ _=>h) ?_ ?_
        ·refine ⟨?_,?_,?_,?_,?_,?_,?_,?_,?_,?_,?_,trivial⟩
         ·intro a w1 vs K HJ HK HD HN kk
          have e1:=HK 1 (by decide)
          go_simp;exact kk _ _ (by simp) HJ trivial rfl
         ·intro a w1 vs K HJ HK HD HN kk
          have e7:=HK 7 (by decide)
          go_simp;exact kk _ _ (by simp) HJ trivial rfl
         ·intro a w1 vs K HJ HK HD HN kk
          have e43:=hdE (HD 0 _ 43 rfl rfl rfl)
          have e44:=hdE (HD 1 _ 44 rfl rfl rfl)
          go_simp;exact kk _ _ (by simp) HJ trivial rfl
         ·intro a w1 vs K HJ HK HD HN kk
          have e45:=hdE (HD 2 _ 45 rfl rfl rfl)
          go_simp;exact kk _ _ (by simp) HJ trivial rfl
         ·intro a w1 vs K HJ HK HD HN kk
          have e46:=hdE (HD 3 _ 46 rfl rfl rfl)
          have ca:w1.cell? ⟨lb,lo+i * 4+3,none⟩=some (.slice YP ny YQ):=(HCX.out w1 HJ).2.2
          go_simp;exact kk _ _ (by simp) HJ trivial rfl
         ·intro a w1 vs K HJ HK HD HN kk
          have e5:=HK 5 (by decide)
          go_simp;exact kk _ _ (by simp) HJ trivial rfl
         ·intro a w1 vs K HJ HK HD HN kk
          have e48:=hdE (HD 5 _ 48 rfl rfl rfl)
          have ca:w1.cell? ⟨qb+1,3,none⟩=some (.slice (some ⟨xb,xo,none⟩) nx cl):=(HCX.out w1 HJ).1
          go_simp;exact kk _ _ (by simp) HJ trivial rfl
         ·intro a w1 vs K HJ HK HD HN kk
          have e8:=HK 8 (by decide)
          go_simp;exact kk _ _ (by simp) HJ trivial rfl
         ·intro a w1 vs K HJ HK HD HN kk
          have e49:=hdE (HD 6 _ 49 rfl rfl rfl)
          have e50:=hdE (HD 7 _ 50 rfl rfl rfl)
          go_simp;exact kk _ _ (by simp) HJ trivial rfl
         ·intro a w1 vs K HJ HK HD HN kk
          have e51:=hdE (HD 8 _ 51 rfl rfl rfl)
          have ca:w1.cell? ⟨xb,xo+k,none⟩=some (.int .i64 v):=(HCX.out w1 HJ).2.1
          go_simp;exact kk _ _ (by simp) HJ trivial rfl
         ·intro a w1 vs K HJ HK HD HN kk
          have e47:=hdE (HD 4 _ 47 rfl rfl rfl)
          have e52:=hdE (HD 9 _ 52 rfl rfl rfl)
          exact wpo_call 86 _ _ rfl #[.slice YP ny YQ,.int .i64 v] (by simp [Act.eval,e47,e52]) (fun args w=>by kernel_rfl)
           ((HH.out w1 HJ).mono fun e w' ⟨he,hb⟩=>⟨_,he,kk _ _ (by simp) (Below.trans HJ (hb.mono HJ.size)) trivial rfl⟩)
        ·intro vs W3 hw6 hrr
         have e10:vs 10=.bool false:=hrr 10 _ rfl
         have HB3:=Lib.hid (HWI.out _ hw6)
         clear hrr hw6
         simp only [putAll,Act.put,List.setIfInBounds_toArray,List.set_cons_zero,List.set_cons_succ]
         rw [e10]
         go_wp2_with fail
         go_roundw
         case rel=>first | exact ⟨k+1,by omega,by go_num,Lib.hid ⟨HB3.out,fun a ha=>by
          by_cases e:a=k
          ·subst e;rw [HV.out];exact HHB.out
          ·exact HNI.out a (by omega)⟩⟩ | ((repeat apply Exists.intro);exact ⟨⟨k+1,by omega,by go_num,Lib.hid ⟨HB3.out,fun a ha=>by
          by_cases e:a=k
          ·subst e;rw [HV.out];exact HHB.out
          ·exact HNI.out a (by omega)⟩⟩,rfl⟩)
         case measure=>simp [intOf];omega
      case neg =>
       obtain rfl:nx=k:=by omega
       have HNX2:Hid (∀ a,a<i+1→(x.cargos.any fun k=>(l.getD a launch0).cargos.contains k)=false):=Lib.hid fun a ha=>by
        by_cases e:a=i
        ·subst e
         exact any_false (d:=(0:Int)) fun b hb=>HNI.out b (by rw [← HNX.out];exact hb)
        ·exact HNO.out a (by omega)
       go_wp2_with fail
       go_roundw
       case rel=>first | exact ⟨i+1,by omega,by go_num,Lib.hid ⟨HBI.out,HNX2.out⟩⟩ | ((repeat apply Exists.intro);exact ⟨⟨i+1,by omega,by go_num,Lib.hid ⟨HBI.out,HNX2.out⟩⟩,rfl⟩)
       case measure=>simp [intOf];omega
    case neg =>
     obtain rfl:nl=i:=by omega
     have HT1F:Hid (t1=false):=Lib.hid (by
      rw [← HT1.out]
      exact any_false (d:=launch0) fun a ha=>HNO.out a (by rw [← HNL.out];exact ha))
     clear hi hlt
     go_wp2_with fail
     go_loopw [9] (fun iv wr=>∃ i:Nat,i≤nl∧iv=.int .i64 i∧Hid (Below W0.heap.size W0 wr∧∀ a,a<i→(decide ((l.getD a launch0).craft=x.craft) && (decide (ag=0) || decide (x.day<(l.getD a launch0).day+ag)))=false)) (fun iv _=>nl - (intOf iv).toNat)
     case atStart=>exact ⟨0,Nat.zero_le _,rfl,Lib.hid ⟨HB.out,fun j hj=>absurd hj (Nat.not_lt_zero j)⟩⟩
     case round =>
      obtain ⟨wi,rfl⟩:∃ wi:World,wi=wr:=⟨_,rfl⟩
      obtain ⟨i,hi,rfl,hs⟩:=hrel
      have HBI:=Lib.hid hs.out.1
      have HNI:=Lib.hid hs.out.2
      clear hs
      have h0i2:(0:Int)≤(i:Int):=by omega
      obtain ⟨c0,_,_,c1,_,_,c6,_⟩:=HC.out wi HBI.out
      by_cases hlt:i<nl
      case pos =>
       have hii:(i:Int)<(nl:Int):=by omega
       obtain ⟨YP,YQ,hyl⟩:=HLL.out i hlt
       obtain ⟨y,hy⟩:∃ y,l.getD i launch0=y:=⟨_,rfl⟩
       have hyd:DayOk y:=by rw [← hy];exact HD.out _ (getD_in _ _ (by rw [HNL.out];exact hlt))
       have HY:=Lib.hid hy
       rw [hy] at hyl
       obtain ⟨yd,hyd1⟩:∃ d,y.day=d:=⟨_,rfl⟩
       obtain ⟨yc,hyc1⟩:∃ d,y.craft=d:=⟨_,rfl⟩
       have HYD:Hid (y.day=yd∧y.craft=yc):=Lib.hid ⟨hyd1,hyc1⟩
       have HWI:Hid (∀ w1,Below wi.heap.size wi w1→Below W0.heap.size W0 w1):=Lib.hid fun w1 hb=>HBI.out.trans (hb.mono HBI.out.size)
       have HCX:Hid (∀ w1,Below wi.heap.size wi w1→w1.cell? ⟨qb+1,0,none⟩=some (.int .i64 xd)∧w1.cell? ⟨qb+1,1,none⟩=some (.int .i64 (ic:Int))∧w1.cell? ⟨lb,lo+i * 4,none⟩=some (.int .i64 yd)∧w1.cell? ⟨lb,lo+i * 4+1,none⟩=some (.int .i64 yc)):=Lib.hid fun w1 hb=>by
        have hb2:=HWI.out w1 hb
        obtain ⟨_,_,e0,e1,_,_,_,_⟩:=HC.out w1 hb2
        exact ⟨e0,e1,by rw [← hyd1];exact (hyl w1 hb2).1 0 _ rfl,by rw [← hyc1];exact (hyl w1 hb2).1 1 _ rfl⟩
       have HWA:Hid (IntKind.i64.wrap (yd+ag)=yd+ag):=Lib.hid (by
        have h1:=hyd.1
        have h2:=hyd.2
        have h3:=HA0.out
        rw [hyd1] at h1 h2
        exact IntWalk.i64_in _ (by omega))
       have HBADB:Hid ((decide (yc=(ic:Int)) && (decide (ag=0) || decide (xd<yd+ag)))=true→R=9):=Lib.hid fun hb=>by
        have:t2=true:=by
         rw [← HT2.out]
         refine any_true (d:=launch0) (by rw [HNL.out];exact hlt) ?_
         rw [HY.out,HYD.out.1,HYD.out.2,HXD.out,HXI.out.1];exact hb
        rw [HRR.out,HT0F.out,HT1F.out,this];rfl
       have HGOOD:Hid ((decide (yc=(ic:Int)) && (decide (ag=0) || decide (xd<yd+ag)))=false→∀ a,a<i+1→(decide ((l.getD a launch0).craft=x.craft) && (decide (ag=0) || decide (x.day<(l.getD a launch0).day+ag)))=false):=Lib.hid fun hb a ha=>by
        by_cases e:a=i
        ·subst e;rw [HY.out,HYD.out.1,HYD.out.2,HXD.out,HXI.out.1];exact hb
        ·exact HNI.out a (by omega)
       clear hyl hy hyd hyd1 hyc1
       go_upto_region 17 with (fail)
       clear c0 c1 c6
       by_cases hcr:yc=(ic:Int)
       case neg =>
        have HQ:Hid ((yc == (ic:Int))=false):=Lib.hid (by rw [beq_eq_false_iff_ne];exact hcr)
        have HG:=Lib.hid (HGOOD.out (by rw [decide_eq_false hcr];rfl))
        clear hcr
        refine wp_region_steps (by kernel_rfl) (by kernel_rfl) (fun w1=>Below wi.heap.size wi w1) (fun _ _ _=>True)
         (fun ix u _ _=>match ix with
          | 0=>u=.slice (some ⟨lb,lo,none⟩) nl cL
          | 1=>u=.int .i64 (i:Int)
          | 2=>u=.pointer (some ⟨lb,lo+i * 4,none⟩)
          | 3=>u=.pointer (some ⟨lb,lo+i * 4+1,none⟩)
          | 4=>u=.int .i64 yc
          | 5=>u=.pointer (some ⟨qb+1,1,none⟩)
          | 6=>u=.int .i64 (ic:Int)
          | 7=>u=.bool false
          | 8=>u=.bool false
          | 9=>u=undef
          | 10=>u=undef
          | 11=>u=undef
          | 12=>u=undef
          | 13=>u=undef
          | 14=>u=undef
          | 15=>u=undef
          | 16=>u=undef
          | 17=>u=undef
          | 18=>u=undef
          | 19=>u=undef
          | 20=>u=undef
          | 21=>u=undef
          | 22=>u=undef
          | _=>u=.bool false) (Below.refl _ _).drew (fun _ _ _ _ _ _ _ _ h _ _=>h) ?_ ?_
        ·refine ⟨?_,?_,?_,?_,?_,?_,?_,?_,?_,?_,?_,?_,?_,?_,?_,?_,?_,?_,?_,?_,?_,?_,?_,?_,trivial⟩
         ·intro a w1 vs K HJ HK HD HN kk
          have e1:=HK 1 (by decide)
          go_simp;exact kk _ _ (by simp) HJ trivial rfl
         ·intro a w1 vs K HJ HK HD HN kk
          have e9:=HK 9 (by decide)
          go_simp;exact kk _ _ (by simp) HJ trivial rfl
         ·intro a w1 vs K HJ HK HD HN kk
          have e67:=hdE (HD 0 _ 67 rfl rfl rfl)
          have e68:=hdE (HD 1 _ 68 rfl rfl rfl)
          go_simp;exact kk _ _ (by simp) HJ trivial rfl
         ·intro a w1 vs K HJ HK HD HN kk
          have e69:=hdE (HD 2 _ 69 rfl rfl rfl)
          go_simp;exact kk _ _ (by simp) HJ trivial rfl
         ·intro a w1 vs K HJ HK HD HN kk
          have e70:=hdE (HD 3 _ 70 rfl rfl rfl)
          have ca:w1.cell? ⟨lb,lo+i * 4+1,none⟩=some (.int .i64 yc):=(HCX.out w1 HJ).2.2.2
          go_simp;exact kk _ _ (by simp) HJ trivial rfl
         ·intro a w1 vs K HJ HK HD HN kk
          have e5:=HK 5 (by decide)
          go_simp;exact kk _ _ (by simp) HJ trivial rfl
         ·intro a w1 vs K HJ HK HD HN kk
          have e72:=hdE (HD 5 _ 72 rfl rfl rfl)
          have ca:w1.cell? ⟨qb+1,1,none⟩=some (.int .i64 (ic:Int)):=(HCX.out w1 HJ).2.1
          go_simp;exact kk _ _ (by simp) HJ trivial rfl
         ·intro a w1 vs K HJ HK HD HN kk
          have e71:=hdE (HD 4 _ 71 rfl rfl rfl)
          have e73:=hdE (HD 6 _ 73 rfl rfl rfl)
          have hq:=HQ.out
          go_simp;exact kk _ _ (by simp) HJ trivial rfl
         ·intro a w1 vs K HJ HK HD HN kk
          have e74:=hdE (HD 7 _ 74 rfl rfl rfl)
          go_simp;exact kk _ _ (by simp) HJ trivial rfl
         ·intro a w1 vs K HJ HK HD HN kk
          have e75:=hdE (HD 8 _ 75 rfl rfl rfl)
          rw [if_neg (wanted_no 8 true rfl rfl rfl e75)]
          exact kk undef _ (by simp) HJ trivial rfl
         ·intro a w1 vs K HJ HK HD HN kk
          have e75:=hdE (HD 8 _ 75 rfl rfl rfl)
          rw [if_neg (wanted_no 8 true rfl rfl rfl e75)]
          exact kk undef _ (by simp) HJ trivial rfl
         ·intro a w1 vs K HJ HK HD HN kk
          have e75:=hdE (HD 8 _ 75 rfl rfl rfl)
          rw [if_neg (wanted_no 8 true rfl rfl rfl e75)]
          exact kk undef _ (by simp) HJ trivial rfl
         ·intro a w1 vs K HJ HK HD HN kk
          have e78:=hdE (HD 11 _ 78 rfl rfl rfl)
          rw [if_neg (wanted_un 11 false rfl rfl rfl e78)]
          exact kk undef _ (by simp) HJ trivial rfl
         ·intro a w1 vs K HJ HK HD HN kk
          have e78:=hdE (HD 11 _ 78 rfl rfl rfl)
          rw [if_neg (wanted_un 11 false rfl rfl rfl e78)]
          exact kk undef _ (by simp) HJ trivial rfl
         ·intro a w1 vs K HJ HK HD HN kk
          have e78:=hdE (HD 11 _ 78 rfl rfl rfl)
          rw [if_neg (wanted_un 11 false rfl rfl rfl e78)]
          exact kk undef _ (by simp) HJ trivial rfl
         ·intro a w1 vs K HJ HK HD HN kk
          have e78:=hdE (HD 11 _ 78 rfl rfl rfl)
          rw [if_neg (wanted_un 11 false rfl rfl rfl e78)]
          exact kk undef _ (by simp) HJ trivial rfl
         ·intro a w1 vs K HJ HK HD HN kk
          have e78:=hdE (HD 11 _ 78 rfl rfl rfl)
          rw [if_neg (wanted_un 11 false rfl rfl rfl e78)]
          exact kk undef _ (by simp) HJ trivial rfl
         ·intro a w1 vs K HJ HK HD HN kk
          have e78:=hdE (HD 11 _ 78 rfl rfl rfl)
          rw [if_neg (wanted_un 11 false rfl rfl rfl e78)]
          exact kk undef _ (by simp) HJ trivial rfl
         ·intro a w1 vs K HJ HK HD HN kk
          have e78:=hdE (HD 11 _ 78 rfl rfl rfl)
          rw [if_neg (wanted_un 11 false rfl rfl rfl e78)]
          exact kk undef _ (by simp) HJ trivial rfl
         ·intro a w1 vs K HJ HK HD HN kk
          have e78:=hdE (HD 11 _ 78 rfl rfl rfl)
          rw [if_neg (wanted_un 11 false rfl rfl rfl e78)]
          exact kk undef _ (by simp) HJ trivial rfl
         ·intro a w1 vs K HJ HK HD HN kk
          have e78:=hdE (HD 11 _ 78 rfl rfl rfl)
          rw [if_neg (wanted_un 11 false rfl rfl rfl e78)]
          exact kk undef _ (by simp) HJ trivial rfl
         ·intro a w1 vs K HJ HK HD HN kk
          have e78:=hdE (HD 11 _ 78 rfl rfl rfl)
          rw [if_neg (wanted_un 11 false rfl rfl rfl e78)]
          exact kk undef _ (by simp) HJ trivial rfl
         ·intro a w1 vs K HJ HK HD HN kk
          have e75:=hdE (HD 8 _ 75 rfl rfl rfl)
          rw [if_neg (wanted_no 8 true rfl rfl rfl e75)]
          exact kk undef _ (by simp) HJ trivial rfl
         ·intro a w1 vs K HJ HK HD HN kk
          have e75:=hdE (HD 8 _ 75 rfl rfl rfl)
          have e89:=hdE (HD 22 _ 89 rfl rfl rfl)
          go_simp;exact kk _ _ (by simp) HJ trivial rfl
        ·intro vs W3 hw6 hrr
         have e23:vs 23=.bool false:=hrr 23 _ rfl
         have HB3:=Lib.hid (HWI.out _ hw6)
         clear hrr hw6
         simp only [putAll,Act.put,List.setIfInBounds_toArray,List.set_cons_zero,List.set_cons_succ]
         rw [e23]
         go_wp2_with fail
         go_roundw
         case rel=>first | exact ⟨i+1,by omega,by go_num,Lib.hid ⟨HB3.out,HG.out⟩⟩ | ((repeat apply Exists.intro);exact ⟨⟨i+1,by omega,by go_num,Lib.hid ⟨HB3.out,HG.out⟩⟩,rfl⟩)
         case measure=>simp [intOf];omega
       case pos =>
        have HQ:Hid ((yc == (ic:Int))=true):=Lib.hid (by rw [beq_iff_eq];exact hcr)
        by_cases hag:ag=0
        case pos =>
         have HQ2:Hid ((ag == (0:Int))=true):=Lib.hid (by rw [beq_iff_eq];exact hag)
         have HRF:Hid (R=9):=Lib.hid (HBADB.out (by rw [decide_eq_true hcr,decide_eq_true hag];rfl))
         clear hcr hag
         refine wp_region_steps (by kernel_rfl) (by kernel_rfl) (fun w1=>Below wi.heap.size wi w1) (fun _ _ _=>True)
          (fun ix u _ _=>match ix with
           | 0=>u=.slice (some ⟨lb,lo,none⟩) nl cL
           | 1=>u=.int .i64 (i:Int)
           | 2=>u=.pointer (some ⟨lb,lo+i * 4,none⟩)
           | 3=>u=.pointer (some ⟨lb,lo+i * 4+1,none⟩)
           | 4=>u=.int .i64 yc
           | 5=>u=.pointer (some ⟨qb+1,1,none⟩)
           | 6=>u=.int .i64 (ic:Int)
           | 7=>u=.bool true
           | 8=>u=.bool true
           | 9=>u=.int .i64 ag
           | 10=>u=.bool true
           | 11=>u=.bool true
           | 12=>u=undef
           | 13=>u=undef
           | 14=>u=undef
           | 15=>u=undef
           | 16=>u=undef
           | 17=>u=undef
           | 18=>u=undef
           | 19=>u=undef
           | 20=>u=undef
           | 21=>u=undef
           | 22=>u=.bool true
           | _=>u=.bool true) (Below.refl _ _).drew (fun _ _ _ _ _ _ _ _ h _ _=>h) ?_ ?_
         ·refine ⟨?_,?_,?_,?_,?_,?_,?_,?_,?_,?_,?_,?_,?_,?_,?_,?_,?_,?_,?_,?_,?_,?_,?_,?_,trivial⟩
          ·intro a w1 vs K HJ HK HD HN kk
           have e1:=HK 1 (by decide)
           go_simp;exact kk _ _ (by simp) HJ trivial rfl
          ·intro a w1 vs K HJ HK HD HN kk
           have e9:=HK 9 (by decide)
           go_simp;exact kk _ _ (by simp) HJ trivial rfl
          ·intro a w1 vs K HJ HK HD HN kk
           have e67:=hdE (HD 0 _ 67 rfl rfl rfl)
           have e68:=hdE (HD 1 _ 68 rfl rfl rfl)
           go_simp;exact kk _ _ (by simp) HJ trivial rfl
          ·intro a w1 vs K HJ HK HD HN kk
           have e69:=hdE (HD 2 _ 69 rfl rfl rfl)
           go_simp;exact kk _ _ (by simp) HJ trivial rfl
          ·intro a w1 vs K HJ HK HD HN kk
           have e70:=hdE (HD 3 _ 70 rfl rfl rfl)
           have ca:w1.cell? ⟨lb,lo+i * 4+1,none⟩=some (.int .i64 yc):=(HCX.out w1 HJ).2.2.2
           go_simp;exact kk _ _ (by simp) HJ trivial rfl
          ·intro a w1 vs K HJ HK HD HN kk
           have e5:=HK 5 (by decide)
           go_simp;exact kk _ _ (by simp) HJ trivial rfl
          ·intro a w1 vs K HJ HK HD HN kk
           have e72:=hdE (HD 5 _ 72 rfl rfl rfl)
           have ca:w1.cell? ⟨qb+1,1,none⟩=some (.int .i64 (ic:Int)):=(HCX.out w1 HJ).2.1
           go_simp;exact kk _ _ (by simp) HJ trivial rfl
          ·intro a w1 vs K HJ HK HD HN kk
           have e71:=hdE (HD 4 _ 71 rfl rfl rfl)
           have e73:=hdE (HD 6 _ 73 rfl rfl rfl)
           have hq:=HQ.out
           go_simp;exact kk _ _ (by simp) HJ trivial rfl
          ·intro a w1 vs K HJ HK HD HN kk
           have e74:=hdE (HD 7 _ 74 rfl rfl rfl)
           go_simp;exact kk _ _ (by simp) HJ trivial rfl
          ·intro a w1 vs K HJ HK HD HN kk
           have e75:=hdE (HD 8 _ 75 rfl rfl rfl)
           rw [if_pos (wanted_yes 8 true rfl rfl rfl e75)]
           have e10:=HK 10 (by decide)
           go_simp;exact kk _ _ (by simp) HJ trivial rfl
          ·intro a w1 vs K HJ HK HD HN kk
           have e75:=hdE (HD 8 _ 75 rfl rfl rfl)
           rw [if_pos (wanted_yes 8 true rfl rfl rfl e75)]
           have e76:=hdE (HD 9 _ 76 rfl rfl rfl)
           have hq:=HQ2.out
           go_simp;exact kk _ _ (by simp) HJ trivial rfl
          ·intro a w1 vs K HJ HK HD HN kk
           have e75:=hdE (HD 8 _ 75 rfl rfl rfl)
           rw [if_pos (wanted_yes 8 true rfl rfl rfl e75)]
           have e77:=hdE (HD 10 _ 77 rfl rfl rfl)
           go_simp;exact kk _ _ (by simp) HJ trivial rfl
          ·intro a w1 vs K HJ HK HD HN kk
           have e78:=hdE (HD 11 _ 78 rfl rfl rfl)
           rw [if_neg (wanted_no 11 false rfl rfl rfl e78)]
           exact kk undef _ (by simp) HJ trivial rfl
          ·intro a w1 vs K HJ HK HD HN kk
           have e78:=hdE (HD 11 _ 78 rfl rfl rfl)
           rw [if_neg (wanted_no 11 false rfl rfl rfl e78)]
           exact kk undef _ (by simp) HJ trivial rfl
          ·intro a w1 vs K HJ HK HD HN kk
           have e78:=hdE (HD 11 _ 78 rfl rfl rfl)
           rw [if_neg (wanted_no 11 false rfl rfl rfl e78)]
           exact kk undef _ (by simp) HJ trivial rfl
          ·intro a w1 vs K HJ HK HD HN kk
           have e78:=hdE (HD 11 _ 78 rfl rfl rfl)
           rw [if_neg (wanted_no 11 false rfl rfl rfl e78)]
           exact kk undef _ (by simp) HJ trivial rfl
          ·intro a w1 vs K HJ HK HD HN kk
           have e78:=hdE (HD 11 _ 78 rfl rfl rfl)
           rw [if_neg (wanted_no 11 false rfl rfl rfl e78)]
           exact kk undef _ (by simp) HJ trivial rfl
          ·intro a w1 vs K HJ HK HD HN kk
           have e78:=hdE (HD 11 _ 78 rfl rfl rfl)
           rw [if_neg (wanted_no 11 false rfl rfl rfl e78)]
           exact kk undef _ (by simp) HJ trivial rfl
          ·intro a w1 vs K HJ HK HD HN kk
           have e78:=hdE (HD 11 _ 78 rfl rfl rfl)
           rw [if_neg (wanted_no 11 false rfl rfl rfl e78)]
           exact kk undef _ (by simp) HJ trivial rfl
          ·intro a w1 vs K HJ HK HD HN kk
           have e78:=hdE (HD 11 _ 78 rfl rfl rfl)
           rw [if_neg (wanted_no 11 false rfl rfl rfl e78)]
           exact kk undef _ (by simp) HJ trivial rfl
          ·intro a w1 vs K HJ HK HD HN kk
           have e78:=hdE (HD 11 _ 78 rfl rfl rfl)
           rw [if_neg (wanted_no 11 false rfl rfl rfl e78)]
           exact kk undef _ (by simp) HJ trivial rfl
          ·intro a w1 vs K HJ HK HD HN kk
           have e78:=hdE (HD 11 _ 78 rfl rfl rfl)
           rw [if_neg (wanted_no 11 false rfl rfl rfl e78)]
           exact kk undef _ (by simp) HJ trivial rfl
          ·intro a w1 vs K HJ HK HD HN kk
           have e75:=hdE (HD 8 _ 75 rfl rfl rfl)
           rw [if_pos (wanted_yes 8 true rfl rfl rfl e75)]
           have e78:=hdE (HD 11 _ 78 rfl rfl rfl)
           have e88:=hdE (HD 21 _ 88 rfl rfl rfl)
           go_simp;exact kk _ _ (by simp) HJ trivial rfl
          ·intro a w1 vs K HJ HK HD HN kk
           have e75:=hdE (HD 8 _ 75 rfl rfl rfl)
           have e89:=hdE (HD 22 _ 89 rfl rfl rfl)
           go_simp;exact kk _ _ (by simp) HJ trivial rfl
         ·intro vs W3 hw6 hrr
          have e23:vs 23=.bool true:=hrr 23 _ rfl
          have HF2:=Lib.hid (HFIN.out _ W3 HRF.out (HWI.out _ hw6))
          clear hrr hw6
          simp only [putAll,Act.put,List.setIfInBounds_toArray,List.set_cons_zero,List.set_cons_succ]
          rw [e23]
          go_wp2_with fail
          first | exact HF2.out | (go_ret;exact HF2.out)
        case neg =>
         have HQ2:Hid ((ag == (0:Int))=false):=Lib.hid (by rw [beq_eq_false_iff_ne];exact hag)
         by_cases hda:xd<yd+ag
         case pos =>
          have HQ3:Hid (xd<yd+ag):=Lib.hid hda
          have HRF:Hid (R=9):=Lib.hid (HBADB.out (by rw [decide_eq_true hcr,decide_eq_true hda,Bool.or_true];rfl))
          clear hcr hag hda
          refine wp_region_steps (by kernel_rfl) (by kernel_rfl) (fun w1=>Below wi.heap.size wi w1) (fun _ _ _=>True)
           (fun ix u _ _=>match ix with
            | 0=>u=.slice (some ⟨lb,lo,none⟩) nl cL
            | 1=>u=.int .i64 (i:Int)
            | 2=>u=.pointer (some ⟨lb,lo+i * 4,none⟩)
            | 3=>u=.pointer (some ⟨lb,lo+i * 4+1,none⟩)
            | 4=>u=.int .i64 yc
            | 5=>u=.pointer (some ⟨qb+1,1,none⟩)
            | 6=>u=.int .i64 (ic:Int)
            | 7=>u=.bool true
            | 8=>u=.bool true
            | 9=>u=.int .i64 ag
            | 10=>u=.bool false
            | 11=>u=.bool false
            | 12=>u=.pointer (some ⟨qb+1,0,none⟩)
            | 13=>u=.int .i64 xd
            | 14=>u=.slice (some ⟨lb,lo,none⟩) nl cL
            | 15=>u=.int .i64 (i:Int)
            | 16=>u=.pointer (some ⟨lb,lo+i * 4,none⟩)
            | 17=>u=.pointer (some ⟨lb,lo+i * 4,none⟩)
            | 18=>u=.int .i64 yd
            | 19=>u=.int .i64 ag
            | 20=>u=.int .i64 (yd+ag)
            | 21=>u=.bool true
            | 22=>u=.bool true
            | _=>u=.bool true) (Below.refl _ _).drew (fun _ _ _ _ _ _ _ _ h _ _=>h) ?_ ?_
          ·refine ⟨?_,?_,?_,?_,?_,?_,?_,?_,?_,?_,?_,?_,?_,?_,?_,?_,?_,?_,?_,?_,?_,?_,?_,?_,trivial⟩
           ·intro a w1 vs K HJ HK HD HN kk
            have e1:=HK 1 (by decide)
            go_simp;exact kk _ _ (by simp) HJ trivial rfl
           ·intro a w1 vs K HJ HK HD HN kk
            have e9:=HK 9 (by decide)
            go_simp;exact kk _ _ (by simp) HJ trivial rfl
           ·intro a w1 vs K HJ HK HD HN kk
            have e67:=hdE (HD 0 _ 67 rfl rfl rfl)
            have e68:=hdE (HD 1 _ 68 rfl rfl rfl)
            go_simp;exact kk _ _ (by simp) HJ trivial rfl
           ·intro a w1 vs K HJ HK HD HN kk
            have e69:=hdE (HD 2 _ 69 rfl rfl rfl)
            go_simp;exact kk _ _ (by simp) HJ trivial rfl
           ·intro a w1 vs K HJ HK HD HN kk
            have e70:=hdE (HD 3 _ 70 rfl rfl rfl)
            have ca:w1.cell? ⟨lb,lo+i * 4+1,none⟩=some (.int .i64 yc):=(HCX.out w1 HJ).2.2.2
            go_simp;exact kk _ _ (by simp) HJ trivial rfl
           ·intro a w1 vs K HJ HK HD HN kk
            have e5:=HK 5 (by decide)
            go_simp;exact kk _ _ (by simp) HJ trivial rfl
           ·intro a w1 vs K HJ HK HD HN kk
            have e72:=hdE (HD 5 _ 72 rfl rfl rfl)
            have ca:w1.cell? ⟨qb+1,1,none⟩=some (.int .i64 (ic:Int)):=(HCX.out w1 HJ).2.1
            go_simp;exact kk _ _ (by simp) HJ trivial rfl
           ·intro a w1 vs K HJ HK HD HN kk
            have e71:=hdE (HD 4 _ 71 rfl rfl rfl)
            have e73:=hdE (HD 6 _ 73 rfl rfl rfl)
            have hq:=HQ.out
            go_simp;exact kk _ _ (by simp) HJ trivial rfl
           ·intro a w1 vs K HJ HK HD HN kk
            have e74:=hdE (HD 7 _ 74 rfl rfl rfl)
            go_simp;exact kk _ _ (by simp) HJ trivial rfl
           ·intro a w1 vs K HJ HK HD HN kk
            have e75:=hdE (HD 8 _ 75 rfl rfl rfl)
            rw [if_pos (wanted_yes 8 true rfl rfl rfl e75)]
            have e10:=HK 10 (by decide)
            go_simp;exact kk _ _ (by simp) HJ trivial rfl
           ·intro a w1 vs K HJ HK HD HN kk
            have e75:=hdE (HD 8 _ 75 rfl rfl rfl)
            rw [if_pos (wanted_yes 8 true rfl rfl rfl e75)]
            have e76:=hdE (HD 9 _ 76 rfl rfl rfl)
            have hq:=HQ2.out
            go_simp;exact kk _ _ (by simp) HJ trivial rfl
           ·intro a w1 vs K HJ HK HD HN kk
            have e75:=hdE (HD 8 _ 75 rfl rfl rfl)
            rw [if_pos (wanted_yes 8 true rfl rfl rfl e75)]
            have e77:=hdE (HD 10 _ 77 rfl rfl rfl)
            go_simp;exact kk _ _ (by simp) HJ trivial rfl
           ·intro a w1 vs K HJ HK HD HN kk
            have e78:=hdE (HD 11 _ 78 rfl rfl rfl)
            rw [if_pos (wanted_yes 11 false rfl rfl rfl e78)]
            have e5:=HK 5 (by decide)
            go_simp;exact kk _ _ (by simp) HJ trivial rfl
           ·intro a w1 vs K HJ HK HD HN kk
            have e78:=hdE (HD 11 _ 78 rfl rfl rfl)
            rw [if_pos (wanted_yes 11 false rfl rfl rfl e78)]
            have e79:=hdE (HD 12 _ 79 rfl rfl rfl)
            have ca:w1.cell? ⟨qb+1,0,none⟩=some (.int .i64 xd):=(HCX.out w1 HJ).1
            go_simp;exact kk _ _ (by simp) HJ trivial rfl
           ·intro a w1 vs K HJ HK HD HN kk
            have e78:=hdE (HD 11 _ 78 rfl rfl rfl)
            rw [if_pos (wanted_yes 11 false rfl rfl rfl e78)]
            have e1:=HK 1 (by decide)
            go_simp;exact kk _ _ (by simp) HJ trivial rfl
           ·intro a w1 vs K HJ HK HD HN kk
            have e78:=hdE (HD 11 _ 78 rfl rfl rfl)
            rw [if_pos (wanted_yes 11 false rfl rfl rfl e78)]
            have e9:=HK 9 (by decide)
            go_simp;exact kk _ _ (by simp) HJ trivial rfl
           ·intro a w1 vs K HJ HK HD HN kk
            have e78:=hdE (HD 11 _ 78 rfl rfl rfl)
            rw [if_pos (wanted_yes 11 false rfl rfl rfl e78)]
            have e81:=hdE (HD 14 _ 81 rfl rfl rfl)
            have e82:=hdE (HD 15 _ 82 rfl rfl rfl)
            go_simp;exact kk _ _ (by simp) HJ trivial rfl
           ·intro a w1 vs K HJ HK HD HN kk
            have e78:=hdE (HD 11 _ 78 rfl rfl rfl)
            rw [if_pos (wanted_yes 11 false rfl rfl rfl e78)]
            have e83:=hdE (HD 16 _ 83 rfl rfl rfl)
            go_simp;exact kk _ _ (by simp) HJ trivial rfl
           ·intro a w1 vs K HJ HK HD HN kk
            have e78:=hdE (HD 11 _ 78 rfl rfl rfl)
            rw [if_pos (wanted_yes 11 false rfl rfl rfl e78)]
            have e84:=hdE (HD 17 _ 84 rfl rfl rfl)
            have ca:w1.cell? ⟨lb,lo+i * 4,none⟩=some (.int .i64 yd):=(HCX.out w1 HJ).2.2.1
            go_simp;exact kk _ _ (by simp) HJ trivial rfl
           ·intro a w1 vs K HJ HK HD HN kk
            have e78:=hdE (HD 11 _ 78 rfl rfl rfl)
            rw [if_pos (wanted_yes 11 false rfl rfl rfl e78)]
            have e10:=HK 10 (by decide)
            go_simp;exact kk _ _ (by simp) HJ trivial rfl
           ·intro a w1 vs K HJ HK HD HN kk
            have e78:=hdE (HD 11 _ 78 rfl rfl rfl)
            rw [if_pos (wanted_yes 11 false rfl rfl rfl e78)]
            have e85:=hdE (HD 18 _ 85 rfl rfl rfl)
            have e86:=hdE (HD 19 _ 86 rfl rfl rfl)
            have hwa:=HWA.out
            go_simp;exact kk _ _ (by simp) HJ trivial rfl
           ·intro a w1 vs K HJ HK HD HN kk
            have e78:=hdE (HD 11 _ 78 rfl rfl rfl)
            rw [if_pos (wanted_yes 11 false rfl rfl rfl e78)]
            have e80:=hdE (HD 13 _ 80 rfl rfl rfl)
            have e87:=hdE (HD 20 _ 87 rfl rfl rfl)
            have hq:=HQ3.out
            go_simp;exact kk _ _ (by simp) HJ trivial rfl
           ·intro a w1 vs K HJ HK HD HN kk
            have e75:=hdE (HD 8 _ 75 rfl rfl rfl)
            rw [if_pos (wanted_yes 8 true rfl rfl rfl e75)]
            have e78:=hdE (HD 11 _ 78 rfl rfl rfl)
            have e88:=hdE (HD 21 _ 88 rfl rfl rfl)
            go_simp;exact kk _ _ (by simp) HJ trivial rfl
           ·intro a w1 vs K HJ HK HD HN kk
            have e75:=hdE (HD 8 _ 75 rfl rfl rfl)
            have e89:=hdE (HD 22 _ 89 rfl rfl rfl)
            go_simp;exact kk _ _ (by simp) HJ trivial rfl
          ·intro vs W3 hw6 hrr
           have e23:vs 23=.bool true:=hrr 23 _ rfl
           have HF2:=Lib.hid (HFIN.out _ W3 HRF.out (HWI.out _ hw6))
           clear hrr hw6
           simp only [putAll,Act.put,List.setIfInBounds_toArray,List.set_cons_zero,List.set_cons_succ]
           rw [e23]
           go_wp2_with fail
           first | exact HF2.out | (go_ret;exact HF2.out)
         case neg =>
          have HQ3:Hid (¬ xd<yd+ag):=Lib.hid hda
          have HG:=Lib.hid (HGOOD.out (by rw [decide_eq_false hda,decide_eq_false hag,Bool.or_false,Bool.and_false]))
          clear hcr hag hda
          refine wp_region_steps (by kernel_rfl) (by kernel_rfl) (fun w1=>Below wi.heap.size wi w1) (fun _ _ _=>True)
           (fun ix u _ _=>match ix with
            | 0=>u=.slice (some ⟨lb,lo,none⟩) nl cL
            | 1=>u=.int .i64 (i:Int)
            | 2=>u=.pointer (some ⟨lb,lo+i * 4,none⟩)
            | 3=>u=.pointer (some ⟨lb,lo+i * 4+1,none⟩)
            | 4=>u=.int .i64 yc
            | 5=>u=.pointer (some ⟨qb+1,1,none⟩)
            | 6=>u=.int .i64 (ic:Int)
            | 7=>u=.bool true
            | 8=>u=.bool true
            | 9=>u=.int .i64 ag
            | 10=>u=.bool false
            | 11=>u=.bool false
            | 12=>u=.pointer (some ⟨qb+1,0,none⟩)
            | 13=>u=.int .i64 xd
            | 14=>u=.slice (some ⟨lb,lo,none⟩) nl cL
            | 15=>u=.int .i64 (i:Int)
            | 16=>u=.pointer (some ⟨lb,lo+i * 4,none⟩)
            | 17=>u=.pointer (some ⟨lb,lo+i * 4,none⟩)
            | 18=>u=.int .i64 yd
            | 19=>u=.int .i64 ag
            | 20=>u=.int .i64 (yd+ag)
            | 21=>u=.bool false
            | 22=>u=.bool false
            | _=>u=.bool false) (Below.refl _ _).drew (fun _ _ _ _ _ _ _ _ h _ _=>h) ?_ ?_
          ·refine ⟨?_,?_,?_,?_,?_,?_,?_,?_,?_,?_,?_,?_,?_,?_,?_,?_,?_,?_,?_,?_,?_,?_,?_,?_,trivial⟩
           ·intro a w1 vs K HJ HK HD HN kk
            have e1:=HK 1 (by decide)
            go_simp;exact kk _ _ (by simp) HJ trivial rfl
           ·intro a w1 vs K HJ HK HD HN kk
            have e9:=HK 9 (by decide)
            go_simp;exact kk _ _ (by simp) HJ trivial rfl
           ·intro a w1 vs K HJ HK HD HN kk
            have e67:=hdE (HD 0 _ 67 rfl rfl rfl)
            have e68:=hdE (HD 1 _ 68 rfl rfl rfl)
            go_simp;exact kk _ _ (by simp) HJ trivial rfl
           ·intro a w1 vs K HJ HK HD HN kk
            have e69:=hdE (HD 2 _ 69 rfl rfl rfl)
            go_simp;exact kk _ _ (by simp) HJ trivial rfl
           ·intro a w1 vs K HJ HK HD HN kk
            have e70:=hdE (HD 3 _ 70 rfl rfl rfl)
            have ca:w1.cell? ⟨lb,lo+i * 4+1,none⟩=some (.int .i64 yc):=(HCX.out w1 HJ).2.2.2
            go_simp;exact kk _ _ (by simp) HJ trivial rfl
           ·intro a w1 vs K HJ HK HD HN kk
            have e5:=HK 5 (by decide)
            go_simp;exact kk _ _ (by simp) HJ trivial rfl
           ·intro a w1 vs K HJ HK HD HN kk
            have e72:=hdE (HD 5 _ 72 rfl rfl rfl)
            have ca:w1.cell? ⟨qb+1,1,none⟩=some (.int .i64 (ic:Int)):=(HCX.out w1 HJ).2.1
            go_simp;exact kk _ _ (by simp) HJ trivial rfl
           ·intro a w1 vs K HJ HK HD HN kk
            have e71:=hdE (HD 4 _ 71 rfl rfl rfl)
            have e73:=hdE (HD 6 _ 73 rfl rfl rfl)
            have hq:=HQ.out
            go_simp;exact kk _ _ (by simp) HJ trivial rfl
           ·intro a w1 vs K HJ HK HD HN kk
            have e74:=hdE (HD 7 _ 74 rfl rfl rfl)
            go_simp;exact kk _ _ (by simp) HJ trivial rfl
           ·intro a w1 vs K HJ HK HD HN kk
            have e75:=hdE (HD 8 _ 75 rfl rfl rfl)
            rw [if_pos (wanted_yes 8 true rfl rfl rfl e75)]
            have e10:=HK 10 (by decide)
            go_simp;exact kk _ _ (by simp) HJ trivial rfl
           ·intro a w1 vs K HJ HK HD HN kk
            have e75:=hdE (HD 8 _ 75 rfl rfl rfl)
            rw [if_pos (wanted_yes 8 true rfl rfl rfl e75)]
            have e76:=hdE (HD 9 _ 76 rfl rfl rfl)
            have hq:=HQ2.out
            go_simp;exact kk _ _ (by simp) HJ trivial rfl
           ·intro a w1 vs K HJ HK HD HN kk
            have e75:=hdE (HD 8 _ 75 rfl rfl rfl)
            rw [if_pos (wanted_yes 8 true rfl rfl rfl e75)]
            have e77:=hdE (HD 10 _ 77 rfl rfl rfl)
            go_simp;exact kk _ _ (by simp) HJ trivial rfl
           ·intro a w1 vs K HJ HK HD HN kk
            have e78:=hdE (HD 11 _ 78 rfl rfl rfl)
            rw [if_pos (wanted_yes 11 false rfl rfl rfl e78)]
            have e5:=HK 5 (by decide)
            go_simp;exact kk _ _ (by simp) HJ trivial rfl
           ·intro a w1 vs K HJ HK HD HN kk
            have e78:=hdE (HD 11 _ 78 rfl rfl rfl)
            rw [if_pos (wanted_yes 11 false rfl rfl rfl e78)]
            have e79:=hdE (HD 12 _ 79 rfl rfl rfl)
            have ca:w1.cell? ⟨qb+1,0,none⟩=some (.int .i64 xd):=(HCX.out w1 HJ).1
            go_simp;exact kk _ _ (by simp) HJ trivial rfl
           ·intro a w1 vs K HJ HK HD HN kk
            have e78:=hdE (HD 11 _ 78 rfl rfl rfl)
            rw [if_pos (wanted_yes 11 false rfl rfl rfl e78)]
            have e1:=HK 1 (by decide)
            go_simp;exact kk _ _ (by simp) HJ trivial rfl
           ·intro a w1 vs K HJ HK HD HN kk
            have e78:=hdE (HD 11 _ 78 rfl rfl rfl)
            rw [if_pos (wanted_yes 11 false rfl rfl rfl e78)]
            have e9:=HK 9 (by decide)
            go_simp;exact kk _ _ (by simp) HJ trivial rfl
           ·intro a w1 vs K HJ HK HD HN kk
            have e78:=hdE (HD 11 _ 78 rfl rfl rfl)
            rw [if_pos (wanted_yes 11 false rfl rfl rfl e78)]
            have e81:=hdE (HD 14 _ 81 rfl rfl rfl)
            have e82:=hdE (HD 15 _ 82 rfl rfl rfl)
            go_simp;exact kk _ _ (by simp) HJ trivial rfl
           ·intro a w1 vs K HJ HK HD HN kk
            have e78:=hdE (HD 11 _ 78 rfl rfl rfl)
            rw [if_pos (wanted_yes 11 false rfl rfl rfl e78)]
            have e83:=hdE (HD 16 _ 83 rfl rfl rfl)
            go_simp;exact kk _ _ (by simp) HJ trivial rfl
           ·intro a w1 vs K HJ HK HD HN kk
            have e78:=hdE (HD 11 _ 78 rfl rfl rfl)
            rw [if_pos (wanted_yes 11 false rfl rfl rfl e78)]
            have e84:=hdE (HD 17 _ 84 rfl rfl rfl)
            have ca:w1.cell? ⟨lb,lo+i * 4,none⟩=some (.int .i64 yd):=(HCX.out w1 HJ).2.2.1
            go_simp;exact kk _ _ (by simp) HJ trivial rfl
           ·intro a w1 vs K HJ HK HD HN kk
            have e78:=hdE (HD 11 _ 78 rfl rfl rfl)
            rw [if_pos (wanted_yes 11 false rfl rfl rfl e78)]
            have e10:=HK 10 (by decide)
            go_simp;exact kk _ _ (by simp) HJ trivial rfl
           ·intro a w1 vs K HJ HK HD HN kk
            have e78:=hdE (HD 11 _ 78 rfl rfl rfl)
            rw [if_pos (wanted_yes 11 false rfl rfl rfl e78)]
            have e85:=hdE (HD 18 _ 85 rfl rfl rfl)
            have e86:=hdE (HD 19 _ 86 rfl rfl rfl)
            have hwa:=HWA.out
            go_simp;exact kk _ _ (by simp) HJ trivial rfl
           ·intro a w1 vs K HJ HK HD HN kk
            have e78:=hdE (HD 11 _ 78 rfl rfl rfl)
            rw [if_pos (wanted_yes 11 false rfl rfl rfl e78)]
            have e80:=hdE (HD 13 _ 80 rfl rfl rfl)
            have e87:=hdE (HD 20 _ 87 rfl rfl rfl)
            have hq:=HQ3.out
            go_simp;exact kk _ _ (by simp) HJ trivial rfl
           ·intro a w1 vs K HJ HK HD HN kk
            have e75:=hdE (HD 8 _ 75 rfl rfl rfl)
            rw [if_pos (wanted_yes 8 true rfl rfl rfl e75)]
            have e78:=hdE (HD 11 _ 78 rfl rfl rfl)
            have e88:=hdE (HD 21 _ 88 rfl rfl rfl)
            go_simp;exact kk _ _ (by simp) HJ trivial rfl
           ·intro a w1 vs K HJ HK HD HN kk
            have e75:=hdE (HD 8 _ 75 rfl rfl rfl)
            have e89:=hdE (HD 22 _ 89 rfl rfl rfl)
            go_simp;exact kk _ _ (by simp) HJ trivial rfl
          ·intro vs W3 hw6 hrr
           have e23:vs 23=.bool false:=hrr 23 _ rfl
           have HB3:=Lib.hid (HWI.out _ hw6)
           clear hrr hw6
           simp only [putAll,Act.put,List.setIfInBounds_toArray,List.set_cons_zero,List.set_cons_succ]
           rw [e23]
           go_wp2_with fail
           go_roundw
           case rel=>first | exact ⟨i+1,by omega,by go_num,Lib.hid ⟨HB3.out,HG.out⟩⟩ | ((repeat apply Exists.intro);exact ⟨⟨i+1,by omega,by go_num,Lib.hid ⟨HB3.out,HG.out⟩⟩,rfl⟩)
           case measure=>simp [intOf];omega
      case neg =>
       obtain rfl:nl=i:=by omega
       have HT2F:Hid (t2=false):=Lib.hid (by
        rw [← HT2.out]
        exact any_false (d:=launch0) fun a ha=>HNI.out a (by rw [← HNL.out];exact ha))
       clear hi hlt c0 c1 c6
       go_wp2_with fail
       go_loopw [11] (fun iv wr=>∃ i:Nat,i≤nl∧iv=.int .i64 i∧Hid (Below W0.heap.size W0 wr∧∀ a,a<i→(decide ((l.getD a launch0).pad=x.pad) && decide (x.day<(l.getD a launch0).day+cn))=false)) (fun iv _=>nl - (intOf iv).toNat)
       case atStart=>exact ⟨0,Nat.zero_le _,rfl,Lib.hid ⟨HBI.out,fun j hj=>absurd hj (Nat.not_lt_zero j)⟩⟩
       case round =>
        obtain ⟨wj,rfl⟩:∃ wj:World,wj=wr:=⟨_,rfl⟩
        obtain ⟨i,hi,rfl,hs⟩:=hrel
        have HBJ:=Lib.hid hs.out.1
        have HNJ:=Lib.hid hs.out.2
        clear hs
        have h0i3:(0:Int)≤(i:Int):=by omega
        by_cases hlt:i<nl
        case pos =>
         have hii:(i:Int)<(nl:Int):=by omega
         obtain ⟨YP,YQ,hyl⟩:=HLL.out i hlt
         obtain ⟨y,hy⟩:∃ y,l.getD i launch0=y:=⟨_,rfl⟩
         have hyd:DayOk y:=by rw [← hy];exact HD.out _ (getD_in _ _ (by rw [HNL.out];exact hlt))
         have HY:=Lib.hid hy
         rw [hy] at hyl
         obtain ⟨yd,hyd1⟩:∃ d,y.day=d:=⟨_,rfl⟩
         obtain ⟨yc,hyc1⟩:∃ d,y.pad=d:=⟨_,rfl⟩
         have HYD:Hid (y.day=yd∧y.pad=yc):=Lib.hid ⟨hyd1,hyc1⟩
         have HWI:Hid (∀ w1,Below wj.heap.size wj w1→Below W0.heap.size W0 w1):=Lib.hid fun w1 hb=>HBJ.out.trans (hb.mono HBJ.out.size)
         have HCX:Hid (∀ w1,Below wj.heap.size wj w1→w1.cell? ⟨qb+1,0,none⟩=some (.int .i64 xd)∧w1.cell? ⟨qb+1,2,none⟩=some (.int .i64 (ip:Int))∧w1.cell? ⟨lb,lo+i * 4,none⟩=some (.int .i64 yd)∧w1.cell? ⟨lb,lo+i * 4+2,none⟩=some (.int .i64 yc)∧w1.cell? ⟨qb,1,none⟩=some (.slice (some ⟨pb,po,none⟩) np V.pc)∧w1.cell? ⟨pb,po+ip * 3+1,none⟩=some (.int .i64 cn)):=Lib.hid fun w1 hb=>by
          have hb2:=HWI.out w1 hb
          obtain ⟨_,e1,e0,_,e2,_,_,e7⟩:=HC.out w1 hb2
          exact ⟨e0,e2,by rw [← hyd1];exact (hyl w1 hb2).1 0 _ rfl,by rw [← hyc1];exact (hyl w1 hb2).1 2 _ rfl,e1,e7⟩
         have HWA:Hid (IntKind.i64.wrap (yd+cn)=yd+cn):=Lib.hid (by
          have h1:=hyd.1
          have h2:=hyd.2
          have h3:=HC0.out
          rw [hyd1] at h1 h2
          exact IntWalk.i64_in _ (by omega))
         have HBADB:Hid ((decide (yc=(ip:Int)) && decide (xd<yd+cn))=true→R=6):=Lib.hid fun hb=>by
          have:t3=true:=by
           rw [← HT3.out]
           refine any_true (d:=launch0) (by rw [HNL.out];exact hlt) ?_
           rw [HY.out,HYD.out.1,HYD.out.2,HXD.out,HXI.out.2];exact hb
          rw [HRR.out,HT0F.out,HT1F.out,HT2F.out,this];rfl
         have HGOOD:Hid ((decide (yc=(ip:Int)) && decide (xd<yd+cn))=false→∀ a,a<i+1→(decide ((l.getD a launch0).pad=x.pad) && decide (x.day<(l.getD a launch0).day+cn))=false):=Lib.hid fun hb a ha=>by
          by_cases e:a=i
          ·subst e;rw [HY.out,HYD.out.1,HYD.out.2,HXD.out,HXI.out.2];exact hb
          ·exact HNJ.out a (by omega)
         clear hyl hy hyd hyd1 hyc1
         go_upto_region 22 with (fail)
         by_cases hcr:yc=(ip:Int)
         case neg =>
          have HQ:Hid ((yc == (ip:Int))=false):=Lib.hid (by rw [beq_eq_false_iff_ne];exact hcr)
          have HG:=Lib.hid (HGOOD.out (by rw [decide_eq_false hcr];rfl))
          clear hcr
          refine wp_region_steps (by kernel_rfl) (by kernel_rfl) (fun w1=>Below wj.heap.size wj w1) (fun _ _ _=>True)
           (fun ix u _ _=>match ix with
            | 0=>u=.slice (some ⟨lb,lo,none⟩) nl cL
            | 1=>u=.int .i64 (i:Int)
            | 2=>u=.pointer (some ⟨lb,lo+i * 4,none⟩)
            | 3=>u=.pointer (some ⟨lb,lo+i * 4+2,none⟩)
            | 4=>u=.int .i64 yc
            | 5=>u=.pointer (some ⟨qb+1,2,none⟩)
            | 6=>u=.int .i64 (ip:Int)
            | 7=>u=.bool false
            | 8=>u=.bool false
            | 9=>u=undef
            | 10=>u=undef
            | 11=>u=undef
            | 12=>u=undef
            | 13=>u=undef
            | 14=>u=undef
            | 15=>u=undef
            | 16=>u=undef
            | 17=>u=undef
            | 18=>u=undef
            | 19=>u=undef
            | 20=>u=undef
            | 21=>u=undef
            | 22=>u=undef
            | 23=>u=undef
            | 24=>u=undef
            | _=>u=.bool false) (Below.refl _ _).drew (fun _ _ _ _ _ _ _ _ h _ _=>h) ?_ ?_
          ·refine ⟨?_,?_,?_,?_,?_,?_,?_,?_,?_,?_,?_,?_,?_,?_,?_,?_,?_,?_,?_,?_,?_,?_,?_,?_,?_,?_,trivial⟩
           ·intro a w1 vs K HJ HK HD HN kk
            have e1:=HK 1 (by decide)
            go_simp;exact kk _ _ (by simp) HJ trivial rfl
           ·intro a w1 vs K HJ HK HD HN kk
            have e11:=HK 11 (by decide)
            go_simp;exact kk _ _ (by simp) HJ trivial rfl
           ·intro a w1 vs K HJ HK HD HN kk
            have e97:=hdE (HD 0 _ 97 rfl rfl rfl)
            have e98:=hdE (HD 1 _ 98 rfl rfl rfl)
            go_simp;exact kk _ _ (by simp) HJ trivial rfl
           ·intro a w1 vs K HJ HK HD HN kk
            have e99:=hdE (HD 2 _ 99 rfl rfl rfl)
            go_simp;exact kk _ _ (by simp) HJ trivial rfl
           ·intro a w1 vs K HJ HK HD HN kk
            have e100:=hdE (HD 3 _ 100 rfl rfl rfl)
            have ca:w1.cell? ⟨lb,lo+i * 4+2,none⟩=some (.int .i64 yc):=(HCX.out w1 HJ).2.2.2.1
            go_simp;exact kk _ _ (by simp) HJ trivial rfl
           ·intro a w1 vs K HJ HK HD HN kk
            have e5:=HK 5 (by decide)
            go_simp;exact kk _ _ (by simp) HJ trivial rfl
           ·intro a w1 vs K HJ HK HD HN kk
            have e102:=hdE (HD 5 _ 102 rfl rfl rfl)
            have ca:w1.cell? ⟨qb+1,2,none⟩=some (.int .i64 (ip:Int)):=(HCX.out w1 HJ).2.1
            go_simp;exact kk _ _ (by simp) HJ trivial rfl
           ·intro a w1 vs K HJ HK HD HN kk
            have e101:=hdE (HD 4 _ 101 rfl rfl rfl)
            have e103:=hdE (HD 6 _ 103 rfl rfl rfl)
            have hq:=HQ.out
            go_simp;exact kk _ _ (by simp) HJ trivial rfl
           ·intro a w1 vs K HJ HK HD HN kk
            have e104:=hdE (HD 7 _ 104 rfl rfl rfl)
            go_simp;exact kk _ _ (by simp) HJ trivial rfl
           ·intro a w1 vs K HJ HK HD HN kk
            have e105:=hdE (HD 8 _ 105 rfl rfl rfl)
            rw [if_neg (wanted_no 8 true rfl rfl rfl e105)]
            exact kk undef _ (by simp) HJ trivial rfl
           ·intro a w1 vs K HJ HK HD HN kk
            have e105:=hdE (HD 8 _ 105 rfl rfl rfl)
            rw [if_neg (wanted_no 8 true rfl rfl rfl e105)]
            exact kk undef _ (by simp) HJ trivial rfl
           ·intro a w1 vs K HJ HK HD HN kk
            have e105:=hdE (HD 8 _ 105 rfl rfl rfl)
            rw [if_neg (wanted_no 8 true rfl rfl rfl e105)]
            exact kk undef _ (by simp) HJ trivial rfl
           ·intro a w1 vs K HJ HK HD HN kk
            have e105:=hdE (HD 8 _ 105 rfl rfl rfl)
            rw [if_neg (wanted_no 8 true rfl rfl rfl e105)]
            exact kk undef _ (by simp) HJ trivial rfl
           ·intro a w1 vs K HJ HK HD HN kk
            have e105:=hdE (HD 8 _ 105 rfl rfl rfl)
            rw [if_neg (wanted_no 8 true rfl rfl rfl e105)]
            exact kk undef _ (by simp) HJ trivial rfl
           ·intro a w1 vs K HJ HK HD HN kk
            have e105:=hdE (HD 8 _ 105 rfl rfl rfl)
            rw [if_neg (wanted_no 8 true rfl rfl rfl e105)]
            exact kk undef _ (by simp) HJ trivial rfl
           ·intro a w1 vs K HJ HK HD HN kk
            have e105:=hdE (HD 8 _ 105 rfl rfl rfl)
            rw [if_neg (wanted_no 8 true rfl rfl rfl e105)]
            exact kk undef _ (by simp) HJ trivial rfl
           ·intro a w1 vs K HJ HK HD HN kk
            have e105:=hdE (HD 8 _ 105 rfl rfl rfl)
            rw [if_neg (wanted_no 8 true rfl rfl rfl e105)]
            exact kk undef _ (by simp) HJ trivial rfl
           ·intro a w1 vs K HJ HK HD HN kk
            have e105:=hdE (HD 8 _ 105 rfl rfl rfl)
            rw [if_neg (wanted_no 8 true rfl rfl rfl e105)]
            exact kk undef _ (by simp) HJ trivial rfl
           ·intro a w1 vs K HJ HK HD HN kk
            have e105:=hdE (HD 8 _ 105 rfl rfl rfl)
            rw [if_neg (wanted_no 8 true rfl rfl rfl e105)]
            exact kk undef _ (by simp) HJ trivial rfl
           ·intro a w1 vs K HJ HK HD HN kk
            have e105:=hdE (HD 8 _ 105 rfl rfl rfl)
            rw [if_neg (wanted_no 8 true rfl rfl rfl e105)]
            exact kk undef _ (by simp) HJ trivial rfl
           ·intro a w1 vs K HJ HK HD HN kk
            have e105:=hdE (HD 8 _ 105 rfl rfl rfl)
            rw [if_neg (wanted_no 8 true rfl rfl rfl e105)]
            exact kk undef _ (by simp) HJ trivial rfl
           ·intro a w1 vs K HJ HK HD HN kk
            have e105:=hdE (HD 8 _ 105 rfl rfl rfl)
            rw [if_neg (wanted_no 8 true rfl rfl rfl e105)]
            exact kk undef _ (by simp) HJ trivial rfl
           ·intro a w1 vs K HJ HK HD HN kk
            have e105:=hdE (HD 8 _ 105 rfl rfl rfl)
            rw [if_neg (wanted_no 8 true rfl rfl rfl e105)]
            exact kk undef _ (by simp) HJ trivial rfl
           ·intro a w1 vs K HJ HK HD HN kk
            have e105:=hdE (HD 8 _ 105 rfl rfl rfl)
            rw [if_neg (wanted_no 8 true rfl rfl rfl e105)]
            exact kk undef _ (by simp) HJ trivial rfl
           ·intro a w1 vs K HJ HK HD HN kk
            have e105:=hdE (HD 8 _ 105 rfl rfl rfl)
            rw [if_neg (wanted_no 8 true rfl rfl rfl e105)]
            exact kk undef _ (by simp) HJ trivial rfl
           ·intro a w1 vs K HJ HK HD HN kk
            have e105:=hdE (HD 8 _ 105 rfl rfl rfl)
            have e121:=hdE (HD 24 _ 121 rfl rfl rfl)
            go_simp;exact kk _ _ (by simp) HJ trivial rfl
          ·intro vs W3 hw6 hrr
           have e25:vs 25=.bool false:=hrr 25 _ rfl
           have HB3:=Lib.hid (HWI.out _ hw6)
           clear hrr hw6
           simp only [putAll,Act.put,List.setIfInBounds_toArray,List.set_cons_zero,List.set_cons_succ]
           rw [e25]
           go_wp2_with fail
           go_roundw
           case rel=>first | exact ⟨i+1,by omega,by go_num,Lib.hid ⟨HB3.out,HG.out⟩⟩ | ((repeat apply Exists.intro);exact ⟨⟨i+1,by omega,by go_num,Lib.hid ⟨HB3.out,HG.out⟩⟩,rfl⟩)
           case measure=>simp [intOf];omega
         case pos =>
          have HQ:Hid ((yc == (ip:Int))=true):=Lib.hid (by rw [beq_iff_eq];exact hcr)
          by_cases hda:xd<yd+cn
          case pos =>
           have HQ3:Hid (xd<yd+cn):=Lib.hid hda
           have HRF:Hid (R=6):=Lib.hid (HBADB.out (by rw [decide_eq_true hcr,decide_eq_true hda];rfl))
           clear hcr hda
           refine wp_region_steps (by kernel_rfl) (by kernel_rfl) (fun w1=>Below wj.heap.size wj w1) (fun _ _ _=>True)
            (fun ix u _ _=>match ix with
             | 0=>u=.slice (some ⟨lb,lo,none⟩) nl cL
             | 1=>u=.int .i64 (i:Int)
             | 2=>u=.pointer (some ⟨lb,lo+i * 4,none⟩)
             | 3=>u=.pointer (some ⟨lb,lo+i * 4+2,none⟩)
             | 4=>u=.int .i64 yc
             | 5=>u=.pointer (some ⟨qb+1,2,none⟩)
             | 6=>u=.int .i64 (ip:Int)
             | 7=>u=.bool true
             | 8=>u=.bool true
             | 9=>u=.pointer (some ⟨qb+1,0,none⟩)
             | 10=>u=.int .i64 xd
             | 11=>u=.slice (some ⟨lb,lo,none⟩) nl cL
             | 12=>u=.int .i64 (i:Int)
             | 13=>u=.pointer (some ⟨lb,lo+i * 4,none⟩)
             | 14=>u=.pointer (some ⟨lb,lo+i * 4,none⟩)
             | 15=>u=.int .i64 yd
             | 16=>u=.pointer (some ⟨qb,1,none⟩)
             | 17=>u=.slice (some ⟨pb,po,none⟩) np V.pc
             | 18=>u=.pointer (some ⟨qb+1,2,none⟩)
             | 19=>u=.int .i64 (ip:Int)
             | 20=>u=.pointer (some ⟨pb,po+ip * 3,none⟩)
             | 21=>u=.pointer (some ⟨pb,po+ip * 3+1,none⟩)
             | 22=>u=.int .i64 cn
             | 23=>u=.int .i64 (yd+cn)
             | 24=>u=.bool true
             | _=>u=.bool true) (Below.refl _ _).drew (fun _ _ _ _ _ _ _ _ h _ _=>h) ?_ ?_
           ·refine ⟨?_,?_,?_,?_,?_,?_,?_,?_,?_,?_,?_,?_,?_,?_,?_,?_,?_,?_,?_,?_,?_,?_,?_,?_,?_,?_,trivial⟩
            ·intro a w1 vs K HJ HK HD HN kk
             have e1:=HK 1 (by decide)
             go_simp;exact kk _ _ (by simp) HJ trivial rfl
            ·intro a w1 vs K HJ HK HD HN kk
             have e11:=HK 11 (by decide)
             go_simp;exact kk _ _ (by simp) HJ trivial rfl
            ·intro a w1 vs K HJ HK HD HN kk
             have e97:=hdE (HD 0 _ 97 rfl rfl rfl)
             have e98:=hdE (HD 1 _ 98 rfl rfl rfl)
             go_simp;exact kk _ _ (by simp) HJ trivial rfl
            ·intro a w1 vs K HJ HK HD HN kk
             have e99:=hdE (HD 2 _ 99 rfl rfl rfl)
             go_simp;exact kk _ _ (by simp) HJ trivial rfl
            ·intro a w1 vs K HJ HK HD HN kk
             have e100:=hdE (HD 3 _ 100 rfl rfl rfl)
             have ca:w1.cell? ⟨lb,lo+i * 4+2,none⟩=some (.int .i64 yc):=(HCX.out w1 HJ).2.2.2.1
             go_simp;exact kk _ _ (by simp) HJ trivial rfl
            ·intro a w1 vs K HJ HK HD HN kk
             have e5:=HK 5 (by decide)
             go_simp;exact kk _ _ (by simp) HJ trivial rfl
            ·intro a w1 vs K HJ HK HD HN kk
             have e102:=hdE (HD 5 _ 102 rfl rfl rfl)
             have ca:w1.cell? ⟨qb+1,2,none⟩=some (.int .i64 (ip:Int)):=(HCX.out w1 HJ).2.1
             go_simp;exact kk _ _ (by simp) HJ trivial rfl
            ·intro a w1 vs K HJ HK HD HN kk
             have e101:=hdE (HD 4 _ 101 rfl rfl rfl)
             have e103:=hdE (HD 6 _ 103 rfl rfl rfl)
             have hq:=HQ.out
             go_simp;exact kk _ _ (by simp) HJ trivial rfl
            ·intro a w1 vs K HJ HK HD HN kk
             have e104:=hdE (HD 7 _ 104 rfl rfl rfl)
             go_simp;exact kk _ _ (by simp) HJ trivial rfl
            ·intro a w1 vs K HJ HK HD HN kk
             have e105:=hdE (HD 8 _ 105 rfl rfl rfl)
             rw [if_pos (wanted_yes 8 true rfl rfl rfl e105)]
             have e5:=HK 5 (by decide)
             go_simp;exact kk _ _ (by simp) HJ trivial rfl
            ·intro a w1 vs K HJ HK HD HN kk
             have e105:=hdE (HD 8 _ 105 rfl rfl rfl)
             rw [if_pos (wanted_yes 8 true rfl rfl rfl e105)]
             have e106:=hdE (HD 9 _ 106 rfl rfl rfl)
             have ca:w1.cell? ⟨qb+1,0,none⟩=some (.int .i64 xd):=(HCX.out w1 HJ).1
             go_simp;exact kk _ _ (by simp) HJ trivial rfl
            ·intro a w1 vs K HJ HK HD HN kk
             have e105:=hdE (HD 8 _ 105 rfl rfl rfl)
             rw [if_pos (wanted_yes 8 true rfl rfl rfl e105)]
             have e1:=HK 1 (by decide)
             go_simp;exact kk _ _ (by simp) HJ trivial rfl
            ·intro a w1 vs K HJ HK HD HN kk
             have e105:=hdE (HD 8 _ 105 rfl rfl rfl)
             rw [if_pos (wanted_yes 8 true rfl rfl rfl e105)]
             have e11:=HK 11 (by decide)
             go_simp;exact kk _ _ (by simp) HJ trivial rfl
            ·intro a w1 vs K HJ HK HD HN kk
             have e105:=hdE (HD 8 _ 105 rfl rfl rfl)
             rw [if_pos (wanted_yes 8 true rfl rfl rfl e105)]
             have e108:=hdE (HD 11 _ 108 rfl rfl rfl)
             have e109:=hdE (HD 12 _ 109 rfl rfl rfl)
             go_simp;exact kk _ _ (by simp) HJ trivial rfl
            ·intro a w1 vs K HJ HK HD HN kk
             have e105:=hdE (HD 8 _ 105 rfl rfl rfl)
             rw [if_pos (wanted_yes 8 true rfl rfl rfl e105)]
             have e110:=hdE (HD 13 _ 110 rfl rfl rfl)
             go_simp;exact kk _ _ (by simp) HJ trivial rfl
            ·intro a w1 vs K HJ HK HD HN kk
             have e105:=hdE (HD 8 _ 105 rfl rfl rfl)
             rw [if_pos (wanted_yes 8 true rfl rfl rfl e105)]
             have e111:=hdE (HD 14 _ 111 rfl rfl rfl)
             have ca:w1.cell? ⟨lb,lo+i * 4,none⟩=some (.int .i64 yd):=(HCX.out w1 HJ).2.2.1
             go_simp;exact kk _ _ (by simp) HJ trivial rfl
            ·intro a w1 vs K HJ HK HD HN kk
             have e105:=hdE (HD 8 _ 105 rfl rfl rfl)
             rw [if_pos (wanted_yes 8 true rfl rfl rfl e105)]
             have e3:=HK 3 (by decide)
             go_simp;exact kk _ _ (by simp) HJ trivial rfl
            ·intro a w1 vs K HJ HK HD HN kk
             have e105:=hdE (HD 8 _ 105 rfl rfl rfl)
             rw [if_pos (wanted_yes 8 true rfl rfl rfl e105)]
             have e113:=hdE (HD 16 _ 113 rfl rfl rfl)
             have ca:w1.cell? ⟨qb,1,none⟩=some (.slice (some ⟨pb,po,none⟩) np V.pc):=(HCX.out w1 HJ).2.2.2.2.1
             go_simp;exact kk _ _ (by simp) HJ trivial rfl
            ·intro a w1 vs K HJ HK HD HN kk
             have e105:=hdE (HD 8 _ 105 rfl rfl rfl)
             rw [if_pos (wanted_yes 8 true rfl rfl rfl e105)]
             have e5:=HK 5 (by decide)
             go_simp;exact kk _ _ (by simp) HJ trivial rfl
            ·intro a w1 vs K HJ HK HD HN kk
             have e105:=hdE (HD 8 _ 105 rfl rfl rfl)
             rw [if_pos (wanted_yes 8 true rfl rfl rfl e105)]
             have e115:=hdE (HD 18 _ 115 rfl rfl rfl)
             have ca:w1.cell? ⟨qb+1,2,none⟩=some (.int .i64 (ip:Int)):=(HCX.out w1 HJ).2.1
             go_simp;exact kk _ _ (by simp) HJ trivial rfl
            ·intro a w1 vs K HJ HK HD HN kk
             have e105:=hdE (HD 8 _ 105 rfl rfl rfl)
             rw [if_pos (wanted_yes 8 true rfl rfl rfl e105)]
             have e114:=hdE (HD 17 _ 114 rfl rfl rfl)
             have e116:=hdE (HD 19 _ 116 rfl rfl rfl)
             go_simp;exact kk _ _ (by simp) HJ trivial rfl
            ·intro a w1 vs K HJ HK HD HN kk
             have e105:=hdE (HD 8 _ 105 rfl rfl rfl)
             rw [if_pos (wanted_yes 8 true rfl rfl rfl e105)]
             have e117:=hdE (HD 20 _ 117 rfl rfl rfl)
             go_simp;exact kk _ _ (by simp) HJ trivial rfl
            ·intro a w1 vs K HJ HK HD HN kk
             have e105:=hdE (HD 8 _ 105 rfl rfl rfl)
             rw [if_pos (wanted_yes 8 true rfl rfl rfl e105)]
             have e118:=hdE (HD 21 _ 118 rfl rfl rfl)
             have ca:w1.cell? ⟨pb,po+ip * 3+1,none⟩=some (.int .i64 cn):=(HCX.out w1 HJ).2.2.2.2.2
             go_simp;exact kk _ _ (by simp) HJ trivial rfl
            ·intro a w1 vs K HJ HK HD HN kk
             have e105:=hdE (HD 8 _ 105 rfl rfl rfl)
             rw [if_pos (wanted_yes 8 true rfl rfl rfl e105)]
             have e112:=hdE (HD 15 _ 112 rfl rfl rfl)
             have e119:=hdE (HD 22 _ 119 rfl rfl rfl)
             have hwa:=HWA.out
             go_simp;exact kk _ _ (by simp) HJ trivial rfl
            ·intro a w1 vs K HJ HK HD HN kk
             have e105:=hdE (HD 8 _ 105 rfl rfl rfl)
             rw [if_pos (wanted_yes 8 true rfl rfl rfl e105)]
             have e107:=hdE (HD 10 _ 107 rfl rfl rfl)
             have e120:=hdE (HD 23 _ 120 rfl rfl rfl)
             have hq:=HQ3.out
             go_simp;exact kk _ _ (by simp) HJ trivial rfl
            ·intro a w1 vs K HJ HK HD HN kk
             have e105:=hdE (HD 8 _ 105 rfl rfl rfl)
             have e121:=hdE (HD 24 _ 121 rfl rfl rfl)
             go_simp;exact kk _ _ (by simp) HJ trivial rfl
           ·intro vs W3 hw6 hrr
            have e25:vs 25=.bool true:=hrr 25 _ rfl
            have HF2:=Lib.hid (HFIN.out _ W3 HRF.out (HWI.out _ hw6))
            clear hrr hw6
            simp only [putAll,Act.put,List.setIfInBounds_toArray,List.set_cons_zero,List.set_cons_succ]
            rw [e25]
            go_wp2_with fail
            first | exact HF2.out | (go_ret;exact HF2.out)
          case neg =>
           have HQ3:Hid (¬ xd<yd+cn):=Lib.hid hda
           have HG:=Lib.hid (HGOOD.out (by rw [decide_eq_false hda,Bool.and_false]))
           clear hcr hda
           refine wp_region_steps (by kernel_rfl) (by kernel_rfl) (fun w1=>Below wj.heap.size wj w1) (fun _ _ _=>True)
            (fun ix u _ _=>match ix with
             | 0=>u=.slice (some ⟨lb,lo,none⟩) nl cL
             | 1=>u=.int .i64 (i:Int)
             | 2=>u=.pointer (some ⟨lb,lo+i * 4,none⟩)
             | 3=>u=.pointer (some ⟨lb,lo+i * 4+2,none⟩)
             | 4=>u=.int .i64 yc
             | 5=>u=.pointer (some ⟨qb+1,2,none⟩)
             | 6=>u=.int .i64 (ip:Int)
             | 7=>u=.bool true
             | 8=>u=.bool true
             | 9=>u=.pointer (some ⟨qb+1,0,none⟩)
             | 10=>u=.int .i64 xd
             | 11=>u=.slice (some ⟨lb,lo,none⟩) nl cL
             | 12=>u=.int .i64 (i:Int)
             | 13=>u=.pointer (some ⟨lb,lo+i * 4,none⟩)
             | 14=>u=.pointer (some ⟨lb,lo+i * 4,none⟩)
             | 15=>u=.int .i64 yd
             | 16=>u=.pointer (some ⟨qb,1,none⟩)
             | 17=>u=.slice (some ⟨pb,po,none⟩) np V.pc
             | 18=>u=.pointer (some ⟨qb+1,2,none⟩)
             | 19=>u=.int .i64 (ip:Int)
             | 20=>u=.pointer (some ⟨pb,po+ip * 3,none⟩)
             | 21=>u=.pointer (some ⟨pb,po+ip * 3+1,none⟩)
             | 22=>u=.int .i64 cn
             | 23=>u=.int .i64 (yd+cn)
             | 24=>u=.bool false
             | _=>u=.bool false) (Below.refl _ _).drew (fun _ _ _ _ _ _ _ _ h _ _=>h) ?_ ?_
           ·refine ⟨?_,?_,?_,?_,?_,?_,?_,?_,?_,?_,?_,?_,?_,?_,?_,?_,?_,?_,?_,?_,?_,?_,?_,?_,?_,?_,trivial⟩
            ·intro a w1 vs K HJ HK HD HN kk
             have e1:=HK 1 (by decide)
             go_simp;exact kk _ _ (by simp) HJ trivial rfl
            ·intro a w1 vs K HJ HK HD HN kk
             have e11:=HK 11 (by decide)
             go_simp;exact kk _ _ (by simp) HJ trivial rfl
            ·intro a w1 vs K HJ HK HD HN kk
             have e97:=hdE (HD 0 _ 97 rfl rfl rfl)
             have e98:=hdE (HD 1 _ 98 rfl rfl rfl)
             go_simp;exact kk _ _ (by simp) HJ trivial rfl
            ·intro a w1 vs K HJ HK HD HN kk
             have e99:=hdE (HD 2 _ 99 rfl rfl rfl)
             go_simp;exact kk _ _ (by simp) HJ trivial rfl
            ·intro a w1 vs K HJ HK HD HN kk
             have e100:=hdE (HD 3 _ 100 rfl rfl rfl)
             have ca:w1.cell? ⟨lb,lo+i * 4+2,none⟩=some (.int .i64 yc):=(HCX.out w1 HJ).2.2.2.1
             go_simp;exact kk _ _ (by simp) HJ trivial rfl
            ·intro a w1 vs K HJ HK HD HN kk
             have e5:=HK 5 (by decide)
             go_simp;exact kk _ _ (by simp) HJ trivial rfl
            ·intro a w1 vs K HJ HK HD HN kk
             have e102:=hdE (HD 5 _ 102 rfl rfl rfl)
             have ca:w1.cell? ⟨qb+1,2,none⟩=some (.int .i64 (ip:Int)):=(HCX.out w1 HJ).2.1
             go_simp;exact kk _ _ (by simp) HJ trivial rfl
            ·intro a w1 vs K HJ HK HD HN kk
             have e101:=hdE (HD 4 _ 101 rfl rfl rfl)
             have e103:=hdE (HD 6 _ 103 rfl rfl rfl)
             have hq:=HQ.out
             go_simp;exact kk _ _ (by simp) HJ trivial rfl
            ·intro a w1 vs K HJ HK HD HN kk
             have e104:=hdE (HD 7 _ 104 rfl rfl rfl)
             go_simp;exact kk _ _ (by simp) HJ trivial rfl
            ·intro a w1 vs K HJ HK HD HN kk
             have e105:=hdE (HD 8 _ 105 rfl rfl rfl)
             rw [if_pos (wanted_yes 8 true rfl rfl rfl e105)]
             have e5:=HK 5 (by decide)
             go_simp;exact kk _ _ (by simp) HJ trivial rfl
            ·intro a w1 vs K HJ HK HD HN kk
             have e105:=hdE (HD 8 _ 105 rfl rfl rfl)
             rw [if_pos (wanted_yes 8 true rfl rfl rfl e105)]
             have e106:=hdE (HD 9 _ 106 rfl rfl rfl)
             have ca:w1.cell? ⟨qb+1,0,none⟩=some (.int .i64 xd):=(HCX.out w1 HJ).1
             go_simp;exact kk _ _ (by simp) HJ trivial rfl
            ·intro a w1 vs K HJ HK HD HN kk
             have e105:=hdE (HD 8 _ 105 rfl rfl rfl)
             rw [if_pos (wanted_yes 8 true rfl rfl rfl e105)]
             have e1:=HK 1 (by decide)
             go_simp;exact kk _ _ (by simp) HJ trivial rfl
            ·intro a w1 vs K HJ HK HD HN kk
             have e105:=hdE (HD 8 _ 105 rfl rfl rfl)
             rw [if_pos (wanted_yes 8 true rfl rfl rfl e105)]
             have e11:=HK 11 (by decide)
             go_simp;exact kk _ _ (by simp) HJ trivial rfl
            ·intro a w1 vs K HJ HK HD HN kk
             have e105:=hdE (HD 8 _ 105 rfl rfl rfl)
             rw [if_pos (wanted_yes 8 true rfl rfl rfl e105)]
             have e108:=hdE (HD 11 _ 108 rfl rfl rfl)
             have e109:=hdE (HD 12 _ 109 rfl rfl rfl)
             go_simp;exact kk _ _ (by simp) HJ trivial rfl
            ·intro a w1 vs K HJ HK HD HN kk
             have e105:=hdE (HD 8 _ 105 rfl rfl rfl)
             rw [if_pos (wanted_yes 8 true rfl rfl rfl e105)]
             have e110:=hdE (HD 13 _ 110 rfl rfl rfl)
             go_simp;exact kk _ _ (by simp) HJ trivial rfl
            ·intro a w1 vs K HJ HK HD HN kk
             have e105:=hdE (HD 8 _ 105 rfl rfl rfl)
             rw [if_pos (wanted_yes 8 true rfl rfl rfl e105)]
             have e111:=hdE (HD 14 _ 111 rfl rfl rfl)
             have ca:w1.cell? ⟨lb,lo+i * 4,none⟩=some (.int .i64 yd):=(HCX.out w1 HJ).2.2.1
             go_simp;exact kk _ _ (by simp) HJ trivial rfl
            ·intro a w1 vs K HJ HK HD HN kk
             have e105:=hdE (HD 8 _ 105 rfl rfl rfl)
             rw [if_pos (wanted_yes 8 true rfl rfl rfl e105)]
             have e3:=HK 3 (by decide)
             go_simp;exact kk _ _ (by simp) HJ trivial rfl
            ·intro a w1 vs K HJ HK HD HN kk
             have e105:=hdE (HD 8 _ 105 rfl rfl rfl)
             rw [if_pos (wanted_yes 8 true rfl rfl rfl e105)]
             have e113:=hdE (HD 16 _ 113 rfl rfl rfl)
             have ca:w1.cell? ⟨qb,1,none⟩=some (.slice (some ⟨pb,po,none⟩) np V.pc):=(HCX.out w1 HJ).2.2.2.2.1
             go_simp;exact kk _ _ (by simp) HJ trivial rfl
            ·intro a w1 vs K HJ HK HD HN kk
             have e105:=hdE (HD 8 _ 105 rfl rfl rfl)
             rw [if_pos (wanted_yes 8 true rfl rfl rfl e105)]
             have e5:=HK 5 (by decide)
             go_simp;exact kk _ _ (by simp) HJ trivial rfl
            ·intro a w1 vs K HJ HK HD HN kk
             have e105:=hdE (HD 8 _ 105 rfl rfl rfl)
             rw [if_pos (wanted_yes 8 true rfl rfl rfl e105)]
             have e115:=hdE (HD 18 _ 115 rfl rfl rfl)
             have ca:w1.cell? ⟨qb+1,2,none⟩=some (.int .i64 (ip:Int)):=(HCX.out w1 HJ).2.1
             go_simp;exact kk _ _ (by simp) HJ trivial rfl
            ·intro a w1 vs K HJ HK HD HN kk
             have e105:=hdE (HD 8 _ 105 rfl rfl rfl)
             rw [if_pos (wanted_yes 8 true rfl rfl rfl e105)]
             have e114:=hdE (HD 17 _ 114 rfl rfl rfl)
             have e116:=hdE (HD 19 _ 116 rfl rfl rfl)
             go_simp;exact kk _ _ (by simp) HJ trivial rfl
            ·intro a w1 vs K HJ HK HD HN kk
             have e105:=hdE (HD 8 _ 105 rfl rfl rfl)
             rw [if_pos (wanted_yes 8 true rfl rfl rfl e105)]
             have e117:=hdE (HD 20 _ 117 rfl rfl rfl)
             go_simp;exact kk _ _ (by simp) HJ trivial rfl
            ·intro a w1 vs K HJ HK HD HN kk
             have e105:=hdE (HD 8 _ 105 rfl rfl rfl)
             rw [if_pos (wanted_yes 8 true rfl rfl rfl e105)]
             have e118:=hdE (HD 21 _ 118 rfl rfl rfl)
             have ca:w1.cell? ⟨pb,po+ip * 3+1,none⟩=some (.int .i64 cn):=(HCX.out w1 HJ).2.2.2.2.2
             go_simp;exact kk _ _ (by simp) HJ trivial rfl
            ·intro a w1 vs K HJ HK HD HN kk
             have e105:=hdE (HD 8 _ 105 rfl rfl rfl)
             rw [if_pos (wanted_yes 8 true rfl rfl rfl e105)]
             have e112:=hdE (HD 15 _ 112 rfl rfl rfl)
             have e119:=hdE (HD 22 _ 119 rfl rfl rfl)
             have hwa:=HWA.out
             go_simp;exact kk _ _ (by simp) HJ trivial rfl
            ·intro a w1 vs K HJ HK HD HN kk
             have e105:=hdE (HD 8 _ 105 rfl rfl rfl)
             rw [if_pos (wanted_yes 8 true rfl rfl rfl e105)]
             have e107:=hdE (HD 10 _ 107 rfl rfl rfl)
             have e120:=hdE (HD 23 _ 120 rfl rfl rfl)
             have hq:=HQ3.out
             go_simp;exact kk _ _ (by simp) HJ trivial rfl
            ·intro a w1 vs K HJ HK HD HN kk
             have e105:=hdE (HD 8 _ 105 rfl rfl rfl)
             have e121:=hdE (HD 24 _ 121 rfl rfl rfl)
             go_simp;exact kk _ _ (by simp) HJ trivial rfl
           ·intro vs W3 hw6 hrr
            have e25:vs 25=.bool false:=hrr 25 _ rfl
            have HB3:=Lib.hid (HWI.out _ hw6)
            clear hrr hw6
            simp only [putAll,Act.put,List.setIfInBounds_toArray,List.set_cons_zero,List.set_cons_succ]
            rw [e25]
            go_wp2_with fail
            go_roundw
            case rel=>first | exact ⟨i+1,by omega,by go_num,Lib.hid ⟨HB3.out,HG.out⟩⟩ | ((repeat apply Exists.intro);exact ⟨⟨i+1,by omega,by go_num,Lib.hid ⟨HB3.out,HG.out⟩⟩,rfl⟩)
            case measure=>simp [intOf];omega
        case neg =>
         obtain rfl:nl=i:=by omega
         have HT3F:Hid (t3=false):=Lib.hid (by
          rw [← HT3.out]
          exact any_false (d:=launch0) fun a ha=>HNJ.out a (by rw [← HNL.out];exact ha))
         have HF2:=Lib.hid (HFIN.out 0 _ (by rw [HRR.out,HT0F.out,HT1F.out,HT2F.out,HT3F.out];rfl) HBJ.out)
         go_wp2_with fail
         first | exact HF2.out | (go_ret;exact HF2.out)
end Go.Proofs.YtcnjenlojnognaaGreat
/- What is proved: contracts of the document's CheckPlan and Valid. Conditions: the campaign and the plan lie in memory. -/
namespace Go.Proofs.YtcnjenlojnognaaGreat
open Go.RowKit

theorem refCheck_val (w:World) (V:CV) (c:CampD) (h:CampAt w w.heap.size V c) (b:Bool) (hb:campB c=b):Calls Tryz.prog 19 #[.agg (campA V c)] w fun e w'=>e=.returned (.bool b)∧Below w.heap.size w w':=by rw [← hb];exact refCheck_any w V c h
set_option maxRecDepth 100000 in
set_option maxHeartbeats 16000000 in
theorem refCheckPlan_any (w:World) (V:CV) (c:CampD) (h:CampAt w w.heap.size V c) (l:List LaunchD) (AL:Option Addr) (cL:Nat) (hp:PlanAt w w.heap.size AL l) (hcap:l.length≤cL) :
  Calls Tryz.prog 17 #[.agg (campA V c),.slice AL l.length cL] w (PlanPost c l w.heap.size w):=by
 obtain ⟨qb,hqb⟩:∃ qb,w.heap.size=qb:=⟨_,rfl⟩
 obtain ⟨W0,hW0⟩:∃ W0,w.alloc (.cells (campA V c) 26)=W0:=⟨_,rfl⟩
 have hb0:Below w.heap.size w W0:=by rw [← hW0];exact (Below.refl _ w).alloc (Nat.le_refl _) _
 have HB0:Hid (Below qb w W0):=Lib.hid (by rw [← hqb];exact hb0)
 have HKC:Hid (Bk W0 qb 26 (campA V c)):=Lib.hid (by rw [← hW0,← hqb];exact Bk.new _ _ _)
 have HSZ:Hid (qb≤W0.heap.size):=Lib.hid (by have:=HKC.out.lt;omega)
 have HCA:=Lib.hid (h.later hb0)
 have HPA:=Lib.hid (hp.later hb0)
 have hll:=hp.len
 obtain ⟨nl,hnl⟩:∃ nl,l.length=nl:=⟨_,rfl⟩
 have HNL:=Lib.hid hnl
 obtain ⟨bc,hbc⟩:∃ b,campB c=b:=⟨_,rfl⟩
 have HBC:=Lib.hid hbc
 have HCH:=Lib.hid (refCheck_val W0 V c HCA.out bc hbc)
 obtain ⟨r1,r2,HRP⟩:∃ r1 r2,Hid (planB c l=(r1,r2)):=⟨(planB c l).1,(planB c l).2,Lib.hid rfl⟩
 obtain ⟨Q,hQ⟩:∃ Q,PlanPost c l w.heap.size w=Q:=⟨_,rfl⟩
 have HFIN:Hid (∀ (a b:Int) (w':World),a=r1→b=r2→Below qb w w'→Q (.returned (.tuple #[.int .i64 a,.int .i64 b])) w'):=Lib.hid fun a b w' h1 h2 h3=>by
  subst h1 h2;rw [← hQ,hqb];unfold PlanPost;rw [HRP.out];exact ⟨rfl,h3⟩
 rw [hnl] at hll hcap ⊢
 rw [hQ]
 clear h hp hb0 hnl hbc hQ
 have HLC:Hid (∀ w1,Below W0.heap.size W0 w1→∀ j u,(campA V c)[j]?=some u→w1.cell? ⟨qb,0+j,none⟩=some u):=Lib.hid fun w1 hb j u hj=>by rw [Nat.zero_add,(HKC.out.below hb HKC.out.lt).cell];exact hj
 have HLC0:=Lib.hid (HLC.out W0 (Below.refl _ _))
 simp only [campA] at hW0 ⊢
 go_enter Tryz.func17,Tryz.ntmps17
 go_upto_region 1 with (fail)
 clear hW0 hqb
 go_wp2_with (first | (refine wpLoadAt rfl 26 _ rfl qb 0 rfl (campA V c) _ HLC0.out und_camp rfl (info_campA V c) ?_))
 refine HCH.out.mono ?_
 rintro e W1 ⟨rfl,hb1⟩
 have HB1:=Lib.hid hb1
 clear hb1
 cases bc with
 | false =>
  have HRR:Hid ((-1:Int)=r1∧(2:Int)=r2):=Lib.hid (by
   have:=HRP.out;unfold planB at this;rw [if_pos HBC.out] at this
   exact Prod.mk.injEq _ _ _ _ ▸ this)
  go_wp2_with fail
  exact HFIN.out _ _ _ HRR.out.1 HRR.out.2 (HB0.out.trans (HB1.out.mono HSZ.out))
 | true =>
 have HPF:Hid (planFrom c l 0 nl=(r1,r2)):=Lib.hid (by have:=HRP.out;unfold planB at this;rw [if_neg (by rw [HBC.out];decide),HNL.out] at this;exact this)
 go_wp2_with fail
 go_loopw [6] (fun i wr=>∃ k:Nat,k≤nl∧i=.int .i64 k∧Hid (Below W0.heap.size W0 wr∧∀ j,j<k→faultB c (l.take j) (l.getD j launch0)=0)) (fun i _=>nl - (intOf i).toNat)
 case atStart=>exact ⟨0,Nat.zero_le _,rfl,Lib.hid ⟨HB1.out,fun j hj=>absurd hj (Nat.not_lt_zero j)⟩⟩
 case round =>
  obtain ⟨k,hk,rfl,hs⟩:=hrel
  have HB:=Lib.hid hs.out.1
  have HS:=Lib.hid hs.out.2
  clear hs
  have h0k:(0:Int)≤(k:Int):=by omega
  by_cases hlt:k<nl
  ·have hki:(k:Int)<(nl:Int):=by omega
   obtain ⟨bb,off,P,Q2,rfl,hbb,dc,dl⟩:=HPA.out.at (i:=k) (by rw [HNL.out];exact hlt)
   obtain ⟨x,hx⟩:∃ x,l.getD k launch0=x:=⟨_,rfl⟩
   have HX:=Lib.hid hx
   rw [hx] at dc dl
   have dc0:=Lib.hid dc
   clear dc
   clear hx
   obtain ⟨ncx,hncx⟩:∃ n,x.cargos.length=n:=⟨_,rfl⟩
   have HNCX:=Lib.hid hncx
   have HDL:=Lib.hid dl
   clear hncx dl
   have HLX:Hid (∀ w1,Below W0.heap.size W0 w1→∀ j u,(launchA x P Q2)[j]?=some u→w1.cell? ⟨bb,off+k * 4+j,none⟩=some u):=Lib.hid fun w1 hb j u hj=>(hb.cell (p:=⟨bb,off+k * 4+j,none⟩) hbb).trans (dc0.out j u hj)
   obtain ⟨f,hf⟩:∃ f,faultB c (l.take k) x=f:=⟨_,rfl⟩
   have HF:=Lib.hid hf
   have HTK:Hid ((l.take k).length=k):=Lib.hid (by rw [List.length_take,HNL.out];omega)
   have HFA:Hid (∀ w1,Below W0.heap.size W0 w1→Calls Tryz.prog 38 #[.agg (campA V c),.slice (some ⟨bb,off,none⟩) k cL,.agg (launchA x P Q2)] w1 fun e w'=>e=.returned (.int .i64 f)∧Below w1.heap.size w1 w'):=Lib.hid fun w1 hb=>by
    have:=refFault_any w1 V c (HCA.out.later hb) HBC.out (l.take k) (some ⟨bb,off,none⟩) cL ((HPA.out.later hb).take k (by rw [HNL.out];exact hk)) (faultB_day HBC.out (by rw [HNL.out];exact hk) HS.out) x P Q2 (HDL.out.later hb)
    rw [HTK.out,hf] at this
    exact this
   have hkc:k≤cL:=by omega
   have hkc2:(k:Int)≤(cL:Int):=by omega
   have HBE:Hid (∀ w1,Below wr.heap.size wr w1→Below W0.heap.size W0 w1):=Lib.hid fun w1 hb=>HB.out.trans (hb.mono HB.out.size)
   clear hf
   go_upto_region 6 with (fail)
   refine wp_region_steps (by kernel_rfl) (by kernel_rfl) (fun w1=>Below wr.heap.size wr w1) (fun _ _ _=>True)
    (fun ix u _ _=>match ix with
     | 0=>u=.agg (campA V c)
     | 1=>u=.slice (some ⟨bb,off,none⟩) nl cL
     | 2=>u=.int .i64 (k:Int)
     | 3=>u=.slice (some ⟨bb,off,none⟩) k cL
     | 4=>u=.slice (some ⟨bb,off,none⟩) nl cL
     | 5=>u=.int .i64 (k:Int)
     | 6=>u=.pointer (some ⟨bb,off+k * 4,none⟩)
     | 7=>u=.agg (launchA x P Q2)
     | 8=>u=.int .i64 f
     | _=>u=.int .i64 f) (Below.refl _ _).drew (fun _ _ _ _ _ _ _ _ h _ _=>h) ?_ ?_
   ·refine ⟨?_,?_,?_,?_,?_,?_,?_,?_,?_,?_,trivial⟩
    ·intro a w1 vs K HJ HK HD HN kk
     have e2:=HK 2 (by decide)
     exact wpo_loadS 26 (.tmp 2) rfl qb 0 (by simpa [Act.eval] using e2) (campA V c) _ (HLC.out w1 (HBE.out w1 HJ)) und_camp rfl (info_campA V c) (kk _ _ (by simp) HJ trivial rfl)
    ·intro a w1 vs K HJ HK HD HN kk
     have e1:=HK 1 (by decide)
     go_simp;exact kk _ _ (by simp) HJ trivial rfl
    ·intro a w1 vs K HJ HK HD HN kk
     have e6:=HK 6 (by decide)
     go_simp;exact kk _ _ (by simp) HJ trivial rfl
    ·intro a w1 vs K HJ HK HD HN kk
     have e18:=hdE (HD 1 _ 18 rfl rfl rfl)
     have e19:=hdE (HD 2 _ 19 rfl rfl rfl)
     go_simp;exact kk _ _ (by simp) HJ trivial rfl
    ·intro a w1 vs K HJ HK HD HN kk
     have e1:=HK 1 (by decide)
     go_simp;exact kk _ _ (by simp) HJ trivial rfl
    ·intro a w1 vs K HJ HK HD HN kk
     have e6:=HK 6 (by decide)
     go_simp;exact kk _ _ (by simp) HJ trivial rfl
    ·intro a w1 vs K HJ HK HD HN kk
     have e21:=hdE (HD 4 _ 21 rfl rfl rfl)
     have e22:=hdE (HD 5 _ 22 rfl rfl rfl)
     go_simp;exact kk _ _ (by simp) HJ trivial rfl
    ·intro a w1 vs K HJ HK HD HN kk
     have e23:=hdE (HD 6 _ 23 rfl rfl rfl)
     exact wpo_loadS 52 (.tmp 23) rfl bb (off+k * 4) (by simpa [Act.eval] using e23) (launchA x P Q2) _ (HLX.out w1 (HBE.out w1 HJ)) und_launch rfl info_launch (kk _ _ (by simp) HJ trivial rfl)
    ·intro a w1 vs K HJ HK HD HN kk
     have e17:=hdE (HD 0 _ 17 rfl rfl rfl)
     have e20:=hdE (HD 3 _ 20 rfl rfl rfl)
     have e24:=hdE (HD 7 _ 24 rfl rfl rfl)
     exact wpo_call 38 _ _ rfl #[.agg (campA V c),.slice (some ⟨bb,off,none⟩) k cL,.agg (launchA x P Q2)] (by simp [Act.eval,e17,e20,e24]) (fun args w=>by kernel_rfl)
      ((HFA.out w1 (HBE.out w1 HJ)).mono fun e w' ⟨he,hb⟩=>⟨_,he,kk _ _ (by simp) (Below.trans HJ (hb.mono HJ.size)) trivial rfl⟩)
    ·intro a w1 vs K HJ HK HD HN kk
     have e25:=hdE (HD 8 _ 25 rfl rfl rfl)
     go_simp;exact kk _ _ (by simp) HJ trivial rfl
   ·intro vs W3 hw6 hrr
    have e6:vs 9=.int .i64 f:=hrr 9 _ rfl
    have HB3:Hid (Below wr.heap.size wr W3):=Lib.hid hw6
    clear hrr hw6
    simp only [putAll,Act.put,List.setIfInBounds_toArray,List.set_cons_zero,List.set_cons_succ]
    rw [e6]
    by_cases hz:f=0
    ·subst hz
     go_wp2_with fail
     go_roundw
     case rel=>exact ⟨k+1,by omega,by go_num,Lib.hid ⟨HBE.out _ HB3.out,fun j hj=>by
      by_cases e:j=k
      ·subst e;rw [HX.out];exact HF.out
      ·exact HS.out j (by omega)⟩⟩
     case measure=>simp [intOf];omega
    ·have hz1:(f == 0)=false:=by rw [beq_eq_false_iff_ne];exact hz
     have HRR:Hid ((k:Int)=r1∧f=r2):=Lib.hid (by
      have h1:=planFrom_hit c l nl 0 k (Nat.zero_le _) (by omega) (fun j _ hj=>HS.out j hj) (by rw [HX.out,HF.out];exact hz)
      rw [HPF.out,HX.out,HF.out] at h1
      exact ⟨(congrArg Prod.fst h1).symm,(congrArg Prod.snd h1).symm⟩)
     clear hz
     go_wp2_with fail
     exact HFIN.out _ _ _ HRR.out.1 HRR.out.2 (HB0.out.trans ((HBE.out _ HB3.out).mono HSZ.out))
  ·obtain rfl:k=nl:=by omega
   have HRR:Hid ((-1:Int)=r1∧(0:Int)=r2):=Lib.hid (by
    have h1:=planFrom_all c l k 0 fun j _ hj=>HS.out j (by omega)
    rw [HPF.out] at h1
    exact ⟨(congrArg Prod.fst h1).symm,(congrArg Prod.snd h1).symm⟩)
   go_wp2_with fail
   exact HFIN.out _ _ _ HRR.out.1 HRR.out.2 (HB0.out.trans (HB.out.mono HSZ.out))
set_option maxRecDepth 100000 in
set_option maxHeartbeats 4000000 in
theorem refValid_any (w:World) (V:CV) (c:CampD) (h:CampAt w w.heap.size V c) (l:List LaunchD) (AL:Option Addr) (cL:Nat) (hp:PlanAt w w.heap.size AL l) (hcap:l.length≤cL) :
  Calls Tryz.prog 31 #[.agg (campA V c),.slice AL l.length cL] w fun e w'=>e=.returned (.bool (validB c l))∧Below w.heap.size w w':=by
 obtain ⟨qb,hqb⟩:∃ qb,w.heap.size=qb:=⟨_,rfl⟩
 obtain ⟨W0,hW0⟩:∃ W0,w.alloc (.cells (campA V c) 26)=W0:=⟨_,rfl⟩
 have hb0:Below w.heap.size w W0:=by rw [← hW0];exact (Below.refl _ w).alloc (Nat.le_refl _) _
 have HB0:Hid (Below qb w W0):=Lib.hid (by rw [← hqb];exact hb0)
 have HKC:Hid (Bk W0 qb 26 (campA V c)):=Lib.hid (by rw [← hW0,← hqb];exact Bk.new _ _ _)
 have HSZ:Hid (qb≤W0.heap.size):=Lib.hid (by have:=HKC.out.lt;omega)
 have HCP:=Lib.hid (refCheckPlan_any W0 V c (h.later hb0) l AL cL (hp.later hb0) hcap)
 have HLC0:Hid (∀ j u,(campA V c)[j]?=some u→W0.cell? ⟨qb,0+j,none⟩=some u):=Lib.hid fun j u hj=>by rw [Nat.zero_add,HKC.out.cell];exact hj
 obtain ⟨nl,hnl⟩:∃ nl,l.length=nl:=⟨_,rfl⟩
 obtain ⟨R,hR⟩:∃ R,validB c l=R:=⟨_,rfl⟩
 obtain ⟨r1,hr1⟩:∃ r,(planB c l).1=r:=⟨_,rfl⟩
 obtain ⟨r2,hr2⟩:∃ r,(planB c l).2=r:=⟨_,rfl⟩
 have HR:Hid (decide (r2=0)=R):=Lib.hid (by rw [← hR,← hr2];rfl)
 unfold PlanPost at HCP
 rw [hnl,hr1,hr2] at HCP
 rw [hR,hqb,hnl]
 clear h hp hb0 hcap hnl hR hr1 hr2
 simp only [campA] at hW0 ⊢
 go_enter Tryz.func31,Tryz.ntmps31
 go_upto_region 1 with (fail)
 clear hW0 hqb
 go_wp2_with (first | (refine wpLoadAt rfl 26 _ rfl qb 0 rfl (campA V c) _ HLC0.out und_camp rfl (info_campA V c) ?_))
 refine HCP.out.mono ?_
 rintro e W1 ⟨rfl,hb1⟩
 have HB1:=Lib.hid hb1
 clear hb1
 by_cases hz:r2=0
 ·have HRR:Hid (true=R):=Lib.hid (by rw [← HR.out,decide_eq_true hz])
  subst hz
  go_wp2_with fail
  go_ret
  exact ⟨ret_bool HRR.out,HB0.out.trans (HB1.out.mono HSZ.out)⟩
 ·have HRR:Hid (false=R):=Lib.hid (by rw [← HR.out,decide_eq_false hz])
  have hz1:(r2 == 0)=false:=by rw [beq_eq_false_iff_ne];exact hz
  clear hz
  go_wp2_with fail
  go_ret
  exact ⟨ret_bool HRR.out,HB0.out.trans (HB1.out.mono HSZ.out)⟩
end Go.Proofs.YtcnjenlojnognaaGreat
