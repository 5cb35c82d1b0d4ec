/- What is proved: the texts Dm, one behind the other; each says at its head what it proves, and under which conditions. -/
import Derived.Test.YtcnjenlojnognaaGreatg18
/- What is proved: lists of launches joined by append. Conditions: those that each lemma states. -/
namespace Go.Proofs.YtcnjenlojnognaaGreat
open Go.RowKit

/-- A launch and where its cargos lie. -/
abbrev RowL:=LaunchD × Option Addr × Nat
def row0:RowL:=(launch0,none,0)
def encR (r:RowL):List Value:=(launchA r.1 r.2.1 r.2.2).toList
theorem encR_len (r:RowL):(encR r).length=4:=rfl
theorem flat_len:∀ (R:List RowL),(R.flatMap encR).length=R.length * 4
 | []=>rfl
 | r :: R=>by rw [List.flatMap_cons,List.length_append,flat_len R,encR_len,List.length_cons];omega
theorem flat_drop:∀ (p:Nat) (R:List RowL),(R.flatMap encR).drop (p * 4)=(R.drop p).flatMap encR
 | 0,R=>by simp
 | p+1,[]=>by simp
 | p+1,r :: R=>by
  rw [List.flatMap_cons,List.drop_succ_cons,← flat_drop p R,show (p+1) * 4=(encR r).length+p * 4 from by rw [encR_len];omega,List.drop_append]
  simp
theorem flat_take:∀ (p:Nat) (R:List RowL),(R.flatMap encR).take (p * 4)=(R.take p).flatMap encR
 | 0,R=>by simp
 | p+1,[]=>by simp
 | p+1,r :: R=>by
  rw [List.flatMap_cons,List.take_succ_cons,List.flatMap_cons,← flat_take p R,show (p+1) * 4=(encR r).length+p * 4 from by rw [encR_len];omega,List.take_append,List.take_of_length_le (by omega)]
  simp
theorem flat_at {R:List RowL} {i j:Nat} (hi:i<R.length) (hj:j<4):(R.flatMap encR)[i * 4+j]?=(encR (R.getD i row0))[j]?:=by
 have h:(R.drop i)=R.getD i row0 :: R.drop (i+1):=by
  rw [List.drop_eq_getElem_cons hi,List.getD_eq_getElem?_getD,List.getElem?_eq_getElem hi];rfl
 rw [← List.getElem?_drop,flat_drop,h,List.flatMap_cons,List.getElem?_append_left (by rw [encR_len];exact hj)]
theorem encR_one (r:RowL):∀ u ∈ encR r,u.oneCell'=true:=by
 intro u hu
 simp [encR,launchA] at hu
 rcases hu with rfl | rfl | rfl | rfl <;> rfl
theorem flat_one (R:List RowL):∀ u ∈ R.flatMap encR,u.oneCell'=true:=by
 intro u hu
 obtain ⟨r,_,h⟩:=List.mem_flatMap.1 hu
 exact encR_one r u h
theorem grown_out {w w':World} {B g:Nat} (h:w.grownBy w' (some g)) (hg:B≤g) (hB:B≤w.heap.size):Below B w w' :=
 ⟨h.os,h.tape,h.output,h.size,fun k hk=>h.block k (by omega) (by simp;omega)⟩
theorem owns_mono {w:World} {B B':Nat} {T:TypeId} {k n:Nat} {v:Value} {xs:List Value} (h:w.ownsRow B T k v n xs) (hb:B'≤B):w.ownsRow B' T k v n xs :=
 ⟨h.1,h.2.imp id fun ⟨g,cap,cur,e,h1,h2⟩=>⟨g,cap,cur,e,by omega,h2⟩⟩
theorem owns_below {w w':World} {B:Nat} {T:TypeId} {k n:Nat} {v:Value} {xs:List Value} (h:w.ownsRow B T k v n xs) (hb:Below w.heap.size w w'):w'.ownsRow B T k v n xs :=
 h.kept (grown_below hb none) (by cases e:v.ownBlock with | none=>exact Or.inl rfl | some k=>exact Or.inr (by simp))
/-- A list of the call's own, never nil. -/
def OwnR (w:World) (B:Nat) (v:Value) (R:List RowL):Prop:=w.ownsRow B 52 4 v R.length (R.flatMap encR)∧∃ g cap,v=.slice (some ⟨g,0,none⟩) R.length cap∧R.length≤cap∧B≤g∧g<w.heap.size
theorem OwnR.later {w w':World} {B:Nat} {v:Value} {R:List RowL} (h:OwnR w B v R) (hb:Below w.heap.size w w'):OwnR w' B v R:=by
 obtain ⟨h1,g,cap,e,h2,h3,h4⟩:=h
 exact ⟨owns_below h1 hb,g,cap,e,h2,h3,Nat.lt_of_lt_of_le h4 hb.size⟩
theorem OwnR.cell {w:World} {B g n cap:Nat} {R:List RowL} (h:OwnR w B (.slice (some ⟨g,0,none⟩) n cap) R) {i j:Nat} (hi:i<R.length) (hj:j<4):w.cell? ⟨g,i * 4+j,none⟩=(encR (R.getD i row0))[j]?:=by
 rcases h.1.2 with ⟨e,_⟩ | ⟨g',cap',cur,e,_,hg,_,_,_,ht⟩
 ·cases e
 ·injection e with e1 _ _
  injection e1 with e1
  injection e1 with e1
  subst e1
  rw [Bk.cell (t:=52) hg,← flat_at hi hj,← ht,List.getElem?_take,if_pos (by omega)]
  simp
theorem infoLx:∃ i,Tryz.prog.info? 52=some i∧i.zero=some (.agg #[.int .i64 0,.int .i64 0,.int .i64 0,.slice none 0 0])∧i.size=4∧i.bytes=48:=by
 obtain ⟨i,hi,he⟩:=Option.map_eq_some_iff.1 infoL
 simp only [Prod.mk.injEq] at he
 exact ⟨i,hi,he.1,he.2.1,he.2.2⟩
set_option maxRecDepth 100000 in
theorem run_app {w:World} {B:Nat} {v:Value} {R S:List RowL} (hv:OwnR w B v R) (A:Option Addr) (c:Nat) (hS:∀ i,i<S.length→∀ j,j<4→∃ b o,A=some ⟨b,o,none⟩∧w.cell? ⟨b,o+(i * 4+j),none⟩=(encR (S.getD i row0))[j]?)
  (hR:R.length≤4096) (hSl:S.length≤4096) (hB:B≤w.heap.size) (ty:TypeId) :
  ∃ v' w',(Builtin.append_ #[27,27] ty #[v,.slice A S.length c]).run Tryz.prog w=.ok v' w'∧OwnR w' B v' (R ++ S)∧Below B w w':=by
 obtain ⟨h1,g,cap,rfl,h2,h3,h4⟩:=hv
 obtain ⟨i,hi,hz,hk,hby⟩:=infoLx
 have out:∀ v' w',w'.ownsRow B 52 4 v' (R.length+S.length) (R.flatMap encR ++ S.flatMap encR)→v' ≠ .slice none 0 0→OwnR w' B v' (R ++ S):=fun v' w' h hne=>by
  have h5:w'.ownsRow B 52 4 v' (R ++ S).length ((R ++ S).flatMap encR):=by rw [List.length_append,List.flatMap_append];exact h
  refine ⟨h5,?_⟩
  rcases h5.2 with ⟨e,_⟩ | ⟨g',cap',cur,e,a1,a2,a3,_⟩
  ·exact absurd e hne
  ·exact ⟨g',cap',e,a3,a1,(Array.getElem?_eq_some_iff.1 a2).1⟩
 cases A with
 | none =>
  have hs0:S=[]:=by
   cases S with
   | nil=>rfl
   | cons r S=>obtain ⟨_,_,e,_⟩:=hS 0 (by simp) 0 (by omega);cases e
  subst hs0
  refine ⟨.slice (some ⟨g,0,none⟩) R.length cap,w,?_,out _ _ (by simpa using h1) (by simp),Below.refl _ _⟩
  simp [Builtin.append_,run_underlying (P:=Tryz.prog) (t:=27) Tryz.underlying27,sizeOf,typeInfo,hi,Builtin.lenOf,Builtin.firstCells,loadCells,storeCells,h2]
 | some ad =>
  have hcell:∀ j u,(S.flatMap encR)[j]?=some u→w.cell? (ad.add j)=some u:=fun j u hj=>by
   have hjl:j<S.length * 4:=by rw [← flat_len];exact (List.getElem?_eq_some_iff.1 hj).1
   have e:j=j / 4 * 4+j % 4:=by omega
   obtain ⟨b,o,e1,e2⟩:=hS (j / 4) (by omega) (j % 4) (by omega)
   injection e1 with e1
   subst e1
   rw [Addr.add_lit,← hj]
   rw [← e] at e2
   rw [e2,← flat_at (by omega) (by omega),← e]
  obtain ⟨v',w',hr,a1,a2,a3⟩:=run_append_own (P:=Tryz.prog) w B 27 ty 52 i _ 4 48 Tryz.underlying27 hi hz hk hby rfl (by decide) _ _ _ h1 ad S.length c (S.flatMap encR) (flat_len S) hcell (flat_one S) (by unfold maxLen;omega) (by omega) hB
  exact ⟨v',w',hr,out _ _ a1 (fun e=>by have:=(a3.1 e).1;cases this),grown_out (g:=g) a2 h3 hB⟩
theorem wpList_app {ops:Array Oper} {rest:List Oper} {o:Oper} {a:Act} {w:World} {Q:Exit→Act→World→Prop} (hgd:o.guard=none) (s x:Operand) (ho:o.op=.call { callee:=.builtin .append,args:=#[s,x],argTypes:=#[27,27] })
  {B:Nat} {v:Value} {R S:List RowL} (hs:a.eval s=v) (hv:OwnR w B v R) (A:Option Addr) (n c:Nat) (hx:a.eval x=.slice A n c) (hn:S.length=n) (hS:∀ i,i<S.length→∀ j,j<4→∃ b o,A=some ⟨b,o,none⟩∧w.cell? ⟨b,o+(i * 4+j),none⟩=(encR (S.getD i row0))[j]?)
  (hR:R.length≤4096) (hSl:S.length≤4096) (hB:B≤w.heap.size)
  (hK:∀ v' w',OwnR w' B v' (R ++ S)→Below B w w'→wpList Tryz.prog ops Q rest (a.put o.dst v') w'):wpList Tryz.prog ops Q (o :: rest) a w :=
 wpList_plain hgd fun _ hK'=>by
  obtain ⟨v',w',hr,h1,h2⟩:=run_app hv A c hS hR hSl hB o.type
  rw [hn] at hr
  unfold Oper.wp execOp
  simp only [ho,resolve,invoke,builtin,Sem.run_bind,Sem.run_pure,Result.andThen_ok,List.map_toArray,List.map_cons,List.map_nil,hs,hx,hr]
  exact hK' _ _ (hK v' w' h1 h2)
end Go.Proofs.YtcnjenlojnognaaGreat
