/- What is proved: the texts Dv, one behind the other; each says at its head what it proves, and under which conditions. -/
import Derived.Test.YtcnjenlojnognaaGreatg29
/- What is proved: the contract of the document's Best. Conditions: the campaign lies in memory. -/
namespace Go.Proofs.YtcnjenlojnognaaGreat
open Go.RowKit

theorem built_search0:Tryz.prog.built 90 []=some #[.slice none 0 0,.bool false]:=by kernel_rfl
def bstO (r:Option (List LaunchD)):List LaunchD × Int:=match r with | none=>([],7) | some p=>(p,0)
theorem bst_search (c:CampD) (hc:campB c=true):bstB c=bstO (searchB c 8 none []):=by
 unfold bstB
 rw [hc,if_neg (by decide),best_eq hc 8 (by decide)]
 cases searchB c 8 none [] <;> rfl
def RBestPost (c:CampD) (w:World) (e:Ending) (w':World):Prop :=
 ∃ A n c',e=.returned (.tuple #[.slice A n c',.int .i64 (bstB c).2])∧n=(bstB c).1.length∧n≤c'∧PlanO w' 0 A (bstB c).1∧Below w.heap.size w w'
set_option maxRecDepth 100000 in
set_option maxHeartbeats 4000000 in
theorem refBest_any (w:World) (V:CV) (c:CampD) (h:CampAt w w.heap.size V c) :
  Calls Tryz.prog 26 #[.agg (campA V c)] w (RBestPost c w):=by
 obtain ⟨qb,hqb⟩:∃ qb,w.heap.size=qb:=⟨_,rfl⟩
 obtain ⟨W0,hW0⟩:∃ W0,w.alloc (.cells (campA V c) 26)=W0:=⟨_,rfl⟩
 have hb0:Below w.heap.size w W0:=by rw [← hW0];exact (Below.refl _ w).alloc (Nat.le_refl _) _
 have HB0:Hid (Below qb w W0):=Lib.hid (by rw [← hqb];exact hb0)
 have HKC:Hid (Bk W0 qb 26 (campA V c)):=Lib.hid (by rw [← hW0,← hqb];exact Bk.new _ _ _)
 have HSZ:Hid (qb≤W0.heap.size):=Lib.hid (by have:=HKC.out.lt;omega)
 have HCA:=Lib.hid (h.later hb0)
 have HLC:Hid (∀ w1,Below W0.heap.size W0 w1→∀ j u,(campA V c)[j]?=some u→w1.cell? ⟨qb,0+j,none⟩=some u):=Lib.hid fun w1 hb j u hj=>by rw [Nat.zero_add,(HKC.out.below hb HKC.out.lt).cell];exact hj
 have HLC0:=Lib.hid (HLC.out W0 (Below.refl _ _))
 obtain ⟨PQ,hPQ⟩:∃ Q,RBestPost c w=Q:=⟨_,rfl⟩
 have HFIN:Hid (∀ (A:Option Addr) (l:List LaunchD) (n c':Nat) (er:Int) (w':World),bstB c=(l,er)→n=l.length→n≤c'→PlanO w' 0 A l→Below qb w w'→PQ (.returned (.tuple #[.slice A n c',.int .i64 er])) w'):=Lib.hid fun A l n c' er w' h1 h2 h3 h4 h5=>by
  rw [← hPQ];unfold RBestPost;rw [h1,hqb];exact ⟨A,n,c',rfl,h2,h3,h4,h5⟩
 obtain ⟨cb,hcb⟩:∃ b,campB c=b:=⟨_,rfl⟩
 have HCB:=Lib.hid hcb
 have HCK:=Lib.hid (refCheck_val W0 V c HCA.out cb hcb)
 rw [hPQ]
 clear h hb0 hcb hPQ
 simp only [campA] at hW0 ⊢
 go_enter Tryz.func26,Tryz.ntmps26
 go_upto_region 1 with (fail)
 clear hW0 hqb
 go_wp2_with (first | (refine wpLoadAt rfl 26 _ rfl qb 0 rfl (campA V c) _ HLC0.out und_camp rfl (info_campA V c) ?_))
 refine HCK.out.mono ?_
 rintro e W1 ⟨rfl,hb1⟩
 have HB1:=Lib.hid hb1
 clear hb1
 cases cb with
 | false =>
  have HF:=Lib.hid (HFIN.out none [] 0 0 2 W1 (by unfold bstB;rw [if_pos HCB.out]) rfl (Nat.le_refl _) (PlanO.nil _ _ _) (HB0.out.trans (HB1.out.mono HSZ.out)))
  go_wp2_with fail
  first | exact HF.out | (go_ret2;exact HF.out)
 | true =>
  have HLC1:=Lib.hid (HLC.out W1 HB1.out)
  have hn6:=camp_len HCB.out
  have hsr:=search_any V c HCB.out 8 W1 none none 0 0 [] none 0 (HCA.out.later HB1.out) (SrAt.none _ _ _ _) (PlanO.nil _ _ _) (Nat.le_refl _) (PlanOk.nil c) (by show c.cargos.length<0+8;omega)
  obtain ⟨r,hr⟩:∃ r,searchB c 8 none []=r:=⟨_,rfl⟩
  rw [hr] at hsr
  have HBS:Hid (bstB c=bstO r):=Lib.hid (by rw [bst_search c HCB.out,hr])
  have HBE:Hid (Calls Tryz.prog 66 #[.agg (campA V c),.agg #[.slice none 0 0,.bool false],.slice none 0 0] W1 (SrPost r W1)):=Lib.hid hsr
  clear hr hsr hn6
  go_wp2_with (first | (refine wpLoadAt rfl 26 _ rfl qb 0 rfl (campA V c) _ HLC1.out und_camp rfl (info_campA V c) ?_) | (refine wpBuildL rfl 90 _ rfl [] #[.slice none 0 0,.bool false] (by simp) built_search0 ?_))
  refine HBE.out.mono ?_
  rintro e W2 ⟨A,n,c',rfl,hat,hb2⟩
  have HB2:Hid (Below W0.heap.size W0 W2):=Lib.hid (HB1.out.trans (hb2.mono HB1.out.size))
  have HAT:=Lib.hid hat
  clear hb2 hat
  simp only [srA]
  cases r with
  | none =>
   simp only [Option.isSome_none]
   have HF:Hid (∀ w',Below W2.heap.size W2 w'→PQ (.returned (.tuple #[.slice none 0 0,.int .i64 7])) w'):=Lib.hid fun w' h1=>HFIN.out none [] 0 0 7 w' HBS.out rfl (Nat.le_refl _) (PlanO.nil _ _ _) (HB0.out.trans ((HB2.out.trans (h1.mono HB2.out.size)).mono HSZ.out))
   go_wp2_with fail
   first | exact HF.out _ ((Below.refl _ _).alloc (Nat.le_refl _) _) | (go_ret2;exact HF.out _ ((Below.refl _ _).alloc (Nat.le_refl _) _))
  | some p =>
   simp only [Option.isSome_some]
   have HF:Hid (∀ w',Below W2.heap.size W2 w'→PQ (.returned (.tuple #[.slice A n c',.int .i64 0])) w'):=Lib.hid fun w' h1=>by
    obtain ⟨h2,h3,h4⟩:=HAT.out p rfl
    exact HFIN.out A p n c' 0 w' HBS.out h2 h3 (h4.later h1) (HB0.out.trans ((HB2.out.trans (h1.mono HB2.out.size)).mono HSZ.out))
   go_wp2_with fail
   first | exact HF.out _ ((Below.refl _ _).alloc (Nat.le_refl _) _) | (go_ret2;exact HF.out _ ((Below.refl _ _).alloc (Nat.le_refl _) _))
end Go.Proofs.YtcnjenlojnognaaGreat
