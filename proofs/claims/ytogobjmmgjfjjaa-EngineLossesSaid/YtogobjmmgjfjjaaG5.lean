/- What is proved: contracts of the queue's put and take, where the queue lies in a search. Conditions: the search's block is known whole. -/
import Derived.Test.YtogobjmmgjfjjaaG4
import Derived.Test.YtogobjmmgjfjjaaF1
namespace Go.Proofs.Ytogobjmmgjfjjaa
open Go.RowKit

theorem Only.drewN {g : Nat} {a w : World} (h : Only g a w) (n : Nat) : Only g a (w.drewN n) := ⟨h.os, h.tape, h.output, h.size, h.block⟩
theorem Only.drew0 {g : Nat} {a w : World} (n : Nat) (h : Only g (a.drewN n) w) : Only g a w := ⟨h.os, h.tape, h.output, h.size, h.block⟩

set_option maxRecDepth 100000 in
set_option maxHeartbeats 1000000 in
theorem takeNone_any (w : World) (sb : Nat) (cs : Array Value) (hb : Bk w sb 92 cs) (A : Option Addr) (n c : Nat) (h6 : cs[6]? = some (.slice A n c)) (h7 : cs[7]? = some (.int .i64 n)) :
    Calls Try.prog 30 #[.pointer (some ⟨sb, 6, none⟩)] w fun e w' => e = .returned (.tuple #[.pointer none, .bool false]) ∧ ∃ m, w' = w.drewN m := by
  have c6 : w.cell? ⟨sb, 6, none⟩ = some (.slice A n c) := (hb.cell 6).trans h6
  have c7 : w.cell? ⟨sb, 7, none⟩ = some (.int .i64 n) := (hb.cell 7).trans h7
  clear hb h6 h7
  go_enter Try.func30, Try.ntmps30
  go_wp2
  go_quiet (fail)
  go_wp2
  go_ret2
  exact ⟨rfl, _, rfl⟩

set_option maxRecDepth 100000 in
set_option maxHeartbeats 1000000 in
theorem takeSome_any (w : World) (sb : Nat) (cs : Array Value) (hb : Bk w sb 92 cs) (g n c k : Nat) (hn : n ≤ 100000) (hk : k < n) (h6 : cs[6]? = some (.slice (some ⟨g, 0, none⟩) n c)) (h7 : cs[7]? = some (.int .i64 k)) (v : Value) (hv : w.cell? ⟨g, k, none⟩ = some v) (hg : g ≠ sb) :
    Calls Try.prog 30 #[.pointer (some ⟨sb, 6, none⟩)] w fun e w' => e = .returned (.tuple #[v, .bool true]) ∧ Bk w' sb 92 (cs.setIfInBounds 7 (.int .i64 (k + 1))) ∧ Only sb w w' := by
  have c6 : w.cell? ⟨sb, 6, none⟩ = some (.slice (some ⟨g, 0, none⟩) n c) := (hb.cell 6).trans h6
  have c7 : w.cell? ⟨sb, 7, none⟩ = some (.int .i64 k) := (hb.cell 7).trans h7
  have f7 := hb.free 7
  have hne : ((k : Int) == (n : Int)) = false := by simp; omega
  have hki : (k : Int) < (n : Int) := by omega
  have h0i : (0 : Int) ≤ (k : Int) := by omega
  have HS := Lib.hid (hb.set 7 (.int .i64 (k + 1)))
  have HO := Lib.hid (Only.setCell w sb 7 (.int .i64 (k + 1)))
  clear hb h6 h7
  go_enter Try.func30, Try.ntmps30
  go_wp2
  go_quiet (fail)
  go_wp2
  go_quiet (fail)
  go_wp2
  go_ret2
  exact ⟨rfl, HS.out, ⟨HO.out.os, HO.out.tape, HO.out.output, HO.out.size, HO.out.block⟩⟩
theorem own_ne {w : World} {B n sb : Nat} {T t : TypeId} {qv : Value} {xs : List Value} {cs : Array Value} (h : w.ownsRow B T 1 qv n xs) (hb : Bk w sb t cs) (ht : t ≠ T) : some sb ≠ qv.ownBlock := by
  rcases h.2 with ⟨rfl, _⟩ | ⟨g, cap, cur, rfl, _, hg, _⟩
  · simp [Value.ownBlock]
  · simp only [Value.ownBlock, ne_eq, Option.some.injEq]
    rintro rfl
    have e := hb.symm.trans hg
    simp only [Option.some.injEq, Obj.cells.injEq] at e
    exact ht e.2.1
theorem own_slice {w : World} {B n k : Nat} {T : TypeId} {qv : Value} {xs : List Value} (h : w.ownsRow B T k qv n xs) : ∃ A c, qv = .slice A n c := by
  rcases h.2 with ⟨rfl, rfl⟩ | ⟨g, cap, cur, rfl, _⟩
  · exact ⟨_, _, rfl⟩
  · exact ⟨_, _, rfl⟩
theorem info_rowP : (Try.prog.info? 90).map (fun i => (i.zero, i.size, i.bytes)) = some (some (.pointer none), 1, 8) := by kernel_rfl

/-- What put has turned. -/
structure PutTo (w w' : World) (B sb : Nat) (cs : Array Value) (qv qv' : Value) (n : Nat) (xs : List Value) : Prop where
  own : w'.ownsRow B 90 1 qv' n xs
  s : Bk w' sb 92 (cs.setIfInBounds 6 qv')
  os : w'.os = w.os
  tape : w'.tape = w.tape
  output : w'.output = w.output
  size : w.heap.size ≤ w'.heap.size
  block : ∀ k, k < w.heap.size → k ≠ sb → some k ≠ qv.ownBlock → w'.heap[k]? = w.heap[k]?

set_option maxRecDepth 100000 in
set_option maxHeartbeats 1000000 in
theorem qput_any (w : World) (B sb : Nat) (cs : Array Value) (hb : Bk w sb 92 cs) (hB : B ≤ w.heap.size) (qv : Value) (h6 : cs[6]? = some qv) (n : Nat) (xs : List Value) (hown : w.ownsRow B 90 1 qv n xs) (hn : n ≤ 100000) (b : Nat) :
    Calls Try.prog 62 #[.pointer (some ⟨sb, 6, none⟩), .pointer (some ⟨b, 0, none⟩)] w fun e w' => e = .returned (.tuple #[]) ∧ ∃ qv', PutTo w w' B sb cs qv qv' (n + 1) (xs ++ [ptr b]) := by
  have c6 : w.cell? ⟨sb, 6, none⟩ = some qv := (hb.cell 6).trans h6
  have hsl := hb.lt
  have hne := own_ne hown hb (by decide)
  obtain ⟨i0, hi, hz0, hz1, hz2⟩ := info_parts info_rowP
  have HB := Lib.hid hb
  clear hb h6
  go_enter Try.func62, Try.ntmps62
  go_wp2_with (first | (at_builtin; refine wpList_append_own _ rfl _ _ 87 rfl B 90 i0 (.pointer none) 1 8 Try.underlying87 hi hz0 hz1 hz2 rfl (by decide) _ _ _ rfl (hown.alloc _) ⟨w.heap.size, 0, none⟩ 1 1 [ptr b] rfl rfl ?c1 ?c2 ?c3 ?c4 ?c5 ?_))
  case c1 => intro j u hj; match j, hj with | 0, hj => simp at hj; subst hj; simp [Addr.add, ptr]
  case c2 => intro u hu; simp at hu; subst hu; rfl
  case c3 => unfold maxLen; omega
  case c4 => omega
  case c5 => simp; omega
  intro v' w1 hown' hgrow _
  have hs1 := hgrow.size
  simp only [World.size_alloc] at hs1
  have hb1 : Bk w1 sb 92 cs := (hgrow.block sb (by simp; omega) hne).trans (HB.out.alloc _)
  have f6 := hb1.free 6
  have hsz : ∃ y, w1.cell? ⟨sb, 6, none⟩ = some y := ⟨qv, by rw [hgrow.cell ((World.cell?_of_block (HB.out.alloc _ |>.trans HB.out.symm)).trans c6) hne]⟩
  obtain ⟨y, hy⟩ := hsz
  obtain ⟨A, c, rfl⟩ := own_slice hown'
  have hne' := own_ne hown' hb1 (by decide)
  have hown2 := hown'.kept (w' := w1.setCell ⟨sb, 6, none⟩ (.slice A (n + 1) c)) (row := some sb) ⟨rfl, rfl, rfl, by simp, fun k hk hk' => Below.heap_setCell w1 _ _ k (fun e => hk' (by rw [e]))⟩ (.inr (Ne.symm hne'))
  have HP := Lib.hid (⟨hown2, hb1.set 6 _, hgrow.os, hgrow.tape, hgrow.output, by simp; omega, fun k hk hk' hk2 => (Below.heap_setCell w1 _ _ k hk').trans ((hgrow.block k (by simp; omega) hk2).trans (Below.heap_alloc w _ k hk))⟩ : PutTo w (w1.setCell ⟨sb, 6, none⟩ (.slice A (n + 1) c)) B sb cs qv (.slice A (n + 1) c) (n + 1) (xs ++ [ptr b]))
  clear hown hown' hown2 hgrow hb1 hne hne'
  go_wp2_with fail
  go_end0
  exact ⟨rfl, _, HP.out⟩
end Go.Proofs.Ytogobjmmgjfjjaa
