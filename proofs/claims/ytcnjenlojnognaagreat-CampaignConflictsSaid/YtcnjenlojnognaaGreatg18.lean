/- What is proved: the texts Dj, one behind the other; each says at its head what it proves, and under which conditions. -/
import Derived.Test.YtcnjenlojnognaaGreatg13
/- What is proved: append([]T{}, xs...) copies a list. Conditions: those that each lemma states. -/
namespace Go.Proofs.YtcnjenlojnognaaGreat
open Go.RowKit

section
variable {P:Program}
theorem run_copyAll (w:World) (t e:TypeId) (i:TypeInfo) (z:Value) (ht:P.underlying t=some (.slice e)) (hi:P.info? e=some i) (hz:i.zero=some z) (k:Nat) (hk:i.size=k) (hby:i.bytes≤1024)
  (b:Addr) (A:Option Addr) (n c:Nat) (f:Nat→Nat→Value) (h:Sl w w.heap.size k A n f) (hn:n≤4096) (ty:TypeId) :
  ∃ A' c' w',(Builtin.append_ #[t,t] ty #[.slice (some b) 0 0,.slice A n c]).run P w=.ok (.slice A' n c') w'∧Cl w' w.heap.size e k A' n f∧Below w.heap.size w w':=by
 rcases Nat.eq_zero_or_pos n with rfl | h0
 ·refine ⟨some b,0,w,?_,⟨hn,fun h0=>absurd h0 (Nat.lt_irrefl _)⟩,Below.refl _ _⟩
  cases A <;> simp [Builtin.append_,run_underlying ht,sizeOf,typeInfo,hi,Builtin.lenOf,Builtin.firstCells,loadCells,loadCellsFrom,storeCells]
 obtain ⟨bb,off,rfl,hB,hc⟩:=h.2 h0
 subst hk
 have hb2:n * i.bytes≤4096 * 1024:=Nat.mul_le_mul hn hby
 have hr:=run_append_grow (P:=P) (w:=w) t ty e i z ht hi hz b 0 0 [] (by simp) (by intro j v hj;simp at hj) ⟨bb,off,none⟩ n c (rowsL n i.size f) (rowsL_len _ _ _) (fun j v hj=>by rw [Addr.add_lit];exact rowsL_cell hc j v hj) (by omega) (by omega)
  (by rw [Nat.zero_add,nextslicecap_zero h0];omega)
 rw [Nat.zero_add] at hr
 refine ⟨_,_,_,hr,⟨hn,fun _=>⟨w.heap.size,_,rfl,Nat.le_refl _,Bk.newAt _ _ _ _ (by simp),fun i' hi' j hj=>?_⟩⟩,((Below.refl _ w).drew).alloc (by simp) _⟩
 have h1:=rowsL_get n i.size f i' j hi' hj
 have h2:=(List.getElem?_eq_some_iff.1 h1).1
 rw [Array.getElem?_append,if_pos (by simpa using h2),Array.getElem?_append]
 simp [h1]
theorem wpList_copyAll {ops:Array Oper} {rest:List Oper} {o:Oper} {a:Act} {w:World} {Q:Exit→Act→World→Prop} (hgd:o.guard=none) (t:TypeId) (s x:Operand) (ho:o.op=.call { callee:=.builtin .append,args:=#[s,x],argTypes:=#[t,t] })
  (e:TypeId) (i:TypeInfo) (z:Value) (ht:P.underlying t=some (.slice e)) (hi:P.info? e=some i) (hz:i.zero=some z) (k:Nat) (hk:i.size=k) (hby:i.bytes≤1024)
  (b:Addr) (hs:a.eval s=.slice (some b) 0 0) (A:Option Addr) (n c:Nat) (hx:a.eval x=.slice A n c) (f:Nat→Nat→Value) (h:Sl w w.heap.size k A n f) (hn:n≤4096)
  (hK:∀ A' c' w',Cl w' w.heap.size e k A' n f→Below w.heap.size w w'→wpList P ops Q rest (a.put o.dst (.slice A' n c')) w'):wpList P ops Q (o :: rest) a w :=
 wpList_plain hgd fun _ hK'=>by
  obtain ⟨A',c',w',hr,h1,h2⟩:=run_copyAll (P:=P) w t e i z ht hi hz k hk hby b A n c f h hn o.type
  unfold Oper.wp execOp
  simp only [ho,resolve,invoke,builtin,Sem.run_bind,Sem.run_pure,Result.andThen_ok,List.map_toArray,List.map_cons,List.map_nil,hs,hx,hr]
  exact hK' _ _ (hK A' c' w' h1 h2)
end
theorem info_ex {P:Program} {t:TypeId} {k:Nat} (h:(P.info? t).map (fun i=>(i.zero.isSome,i.size,decide (i.bytes≤1024)))=some (true,k,true)):∃ i z,P.info? t=some i∧i.zero=some z∧i.size=k∧i.bytes≤1024:=by
 obtain ⟨i,hi,he⟩:=Option.map_eq_some_iff.1 h
 simp only [Prod.mk.injEq,decide_eq_true_eq] at he
 obtain ⟨h1,h2,h3⟩:=he
 obtain ⟨z,hz⟩:=Option.isSome_iff_exists.1 h1
 exact ⟨i,z,hi,hz,h2,h3⟩
theorem info_craftx:(Tryz.prog.info? 46).map (fun i=>(i.zero.isSome,i.size,decide (i.bytes≤1024)))=some (true,4,true):=by kernel_rfl
theorem info_cargox:(Tryz.prog.info? 54).map (fun i=>(i.zero.isSome,i.size,decide (i.bytes≤1024)))=some (true,6,true):=by kernel_rfl
theorem info_launchx:(Tryz.prog.info? 52).map (fun i=>(i.zero.isSome,i.size,decide (i.bytes≤1024)))=some (true,4,true):=by kernel_rfl
theorem info_intx:(Tryz.prog.info? 3).map (fun i=>(i.zero.isSome,i.size,decide (i.bytes≤1024)))=some (true,1,true):=by kernel_rfl
end Go.Proofs.YtcnjenlojnognaaGreat
