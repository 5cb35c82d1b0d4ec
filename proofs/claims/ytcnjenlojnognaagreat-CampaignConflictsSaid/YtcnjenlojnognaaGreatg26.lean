/- What is proved: the texts Dp, one behind the other; each says at its head what it proves, and under which conditions. -/
import Derived.Test.YtcnjenlojnognaaGreatg22
/- What is proved: the contract of the document's cargos: the bits of a number below 64. Conditions: none. -/
namespace Go.Proofs.YtcnjenlojnognaaGreat
open Go.RowKit

/-- A list of numbers of the call's own. -/
def OwnI (w:World) (B:Nat) (v:Value) (L:List Int):Prop:=w.ownsRow B 3 1 v L.length (L.map (Value.int .i64))
theorem OwnI.nil (w:World) (B:Nat):OwnI w B (.slice none 0 0) []:=World.ownsRow_nil _ _ _ _
theorem OwnI.later {w w':World} {B:Nat} {v:Value} {L:List Int} (h:OwnI w B v L) (hb:Below w.heap.size w w'):OwnI w' B v L:=owns_below h hb
theorem OwnI.ints {w:World} {B:Nat} {v:Value} {L:List Int} (h:OwnI w B v L) (hn:L.length≤4096):∃ A c,v=.slice A L.length c∧IntsAt w w.heap.size A L:=by
 rcases h.2 with ⟨rfl,h0⟩ | ⟨g,cap,cur,rfl,hb,hg,h1,h2,h3,h4⟩
 ·exact ⟨none,0,by rw [h0],by omega,fun hi=>absurd hi (by omega)⟩
 ·refine ⟨_,cap,rfl,by omega,fun _=>⟨g,0,rfl,Bk.lt (t:=3) hg,fun i hi j hj=>?_⟩⟩
  obtain rfl:j=0:=by omega
  rw [Nat.zero_add,Nat.mul_one,Nat.add_zero,Bk.cell (t:=3) hg]
  have e:cur.toList[i]?=(L.map (Value.int .i64))[i]?:=by rw [← h4,List.getElem?_take,if_pos (by omega)]
  rw [← Array.getElem?_toList,e,List.getElem?_map,List.getElem?_eq_getElem hi]
  show _=some (Value.int .i64 (L.getD i 0))
  rw [List.getD_eq_getElem?_getD,List.getElem?_eq_getElem hi];rfl
theorem infoIx:∃ i,Tryz.prog.info? 3=some i∧i.zero=some (.int .i64 0)∧i.size=1∧i.bytes=8:=by
 have h:(Tryz.prog.info? 3).map (fun i=>(i.zero,i.size,i.bytes))=some (some (.int .i64 0),1,8):=by kernel_rfl
 obtain ⟨i,hi,he⟩:=Option.map_eq_some_iff.1 h
 simp only [Prod.mk.injEq] at he
 exact ⟨i,hi,he.1,he.2.1,he.2.2⟩
theorem run_pushI {w:World} {B:Nat} {v:Value} {L:List Int} (hv:OwnI w B v L) (ad:Addr) (c:Nat) (x:Int) (hx:w.cell? ad=some (.int .i64 x)) (hL:L.length≤4096) (hB:B≤w.heap.size) (ty:TypeId) :
  ∃ v' w',(Builtin.append_ #[48,48] ty #[v,.slice (some ad) 1 c]).run Tryz.prog w=.ok v' w'∧OwnI w' B v' (L ++ [x])∧Below B w w':=by
 obtain ⟨i,hi,hz,hk,hby⟩:=infoIx
 obtain ⟨v',w',hr,a1,a2,_⟩:=run_append_own (P:=Tryz.prog) w B 48 ty 3 i _ 1 8 Tryz.underlying48 hi hz hk hby rfl (by decide) _ _ _ hv ad 1 c [.int .i64 x] rfl (fun j u hj=>by
  have hj0:j=0:=by have:=(List.getElem?_eq_some_iff.1 hj).1;simpa using this
  subst hj0
  have e:Value.int .i64 x=u:=by simpa using hj
  rw [← e,← hx];cases ad;simp [Addr.add]) (fun u hu=>by rw [List.mem_singleton.1 hu];rfl) (by unfold maxLen;omega) (by omega) hB
 refine ⟨v',w',hr,?_,⟨a2.os,a2.tape,a2.output,a2.size,fun k hk=>a2.block k (by omega) ?_⟩⟩
 ·unfold OwnI;rw [List.length_append,List.map_append];exact a1
 ·cases e:v.ownBlock with
  | none=>simp
  | some g=>have:=(World.ownsRow.lt hv g e).1;simp;omega
theorem wpList_pushI {ops:Array Oper} {rest:List Oper} {o:Oper} {a:Act} {w:World} {Q:Exit→Act→World→Prop} (hgd:o.guard=none) (s x:Operand) (ho:o.op=.call { callee:=.builtin .append,args:=#[s,x],argTypes:=#[48,48] })
  {B:Nat} {v:Value} {L:List Int} (hs:a.eval s=v) (hv:OwnI w B v L) (ad:Addr) (c:Nat) (n:Int) (hx:a.eval x=.slice (some ad) 1 c) (hc:w.cell? ad=some (.int .i64 n)) (hL:L.length≤4096) (hB:B≤w.heap.size)
  (hK:∀ v' w',OwnI w' B v' (L ++ [n])→Below B w w'→wpList Tryz.prog ops Q rest (a.put o.dst v') w'):wpList Tryz.prog ops Q (o :: rest) a w :=
 wpList_plain hgd fun _ hK'=>by
  obtain ⟨v',w',hr,h1,h2⟩:=run_pushI hv ad c n hc hL hB o.type
  unfold Oper.wp execOp
  simp only [ho,resolve,invoke,builtin,Sem.run_bind,Sem.run_pure,Result.andThen_ok,List.map_toArray,List.map_cons,List.map_nil,hs,hx,hr]
  exact hK' _ _ (hK v' w' h1 h2)
/-- The bits below i. -/
def lowL (m i:Nat):List Int:=((List.range i).filter fun j=>m.testBit j).map Int.ofNat
theorem lowL_succ (m i:Nat):lowL m (i+1)=if m / 2 ^ i % 2=1 then lowL m i ++ [(i:Int)] else lowL m i:=by
 unfold lowL
 rw [List.range_succ,List.filter_append]
 have h:m.testBit i=decide (m / 2 ^ i % 2=1):=Nat.testBit_eq_decide_div_mod_eq
 by_cases e:m / 2 ^ i % 2=1
 ·rw [if_pos e];simp [h,e]
 ·rw [if_neg e];simp [h,e]
theorem lowL_len (m i:Nat):(lowL m i).length≤i:=by
 unfold lowL;rw [List.length_map]
 exact Nat.le_trans (List.length_filter_le _ _) (by simp)
theorem lowL_end {m i:Nat} (h:m / 2 ^ i=0) (hm:m<64):lowL m i=bitsL m:=by
 have h1:∀ k,lowL m (i+k)=lowL m i:=by
  intro k
  induction k with
  | zero=>rfl
  | succ k ih =>
   rw [← Nat.add_assoc,lowL_succ,if_neg ?_,ih]
   have h2:m<2 ^ i:=by
    rcases Nat.div_eq_zero_iff.1 h with h3 | h3
    ·exact absurd h3 (by have:=Nat.two_pow_pos i;omega)
    ·exact h3
   rw [Nat.div_eq_of_lt (Nat.lt_of_lt_of_le h2 (Nat.pow_le_pow_right (by decide) (by omega)))]
   decide
 have h3:∀ k,lowL m (6+k)=lowL m 6:=by
  intro k
  induction k with
  | zero=>rfl
  | succ k ih =>
   rw [← Nat.add_assoc,lowL_succ,if_neg ?_,ih]
   rw [Nat.div_eq_of_lt (Nat.lt_of_lt_of_le hm (Nat.le_trans (show 64≤2 ^ 6 by decide) (Nat.pow_le_pow_right (by decide) (by omega))))]
   decide
 have h4:lowL m (i+6)=lowL m (6+i):=by rw [Nat.add_comm]
 rw [h1,h3] at h4
 rw [h4];rfl
end Go.Proofs.YtcnjenlojnognaaGreat
