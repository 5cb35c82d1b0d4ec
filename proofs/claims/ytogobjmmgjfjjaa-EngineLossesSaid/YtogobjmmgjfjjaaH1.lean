/- What is proved: a contract of ullagelaw07.example. Conditions: none. -/
import Derived.Test.YtogobjmmgjfjjaaG10
namespace Go.Proofs.Ytogobjmmgjfjjaa
open Go.RowKit

def exP (never : Bool) : PlantD :=
  ⟨[⟨⟨#[97]⟩, 100, 10, 500⟩, ⟨⟨#[98]⟩, 100, 10, 500⟩], [⟨⟨#[118]⟩, 2, false⟩, ⟨⟨#[119]⟩, 1, false⟩],
   [⟨0, 1, 30, false, [0, 1]⟩, ⟨-1, 0, 50, true, [1]⟩], if never then [[⟨0, true⟩, ⟨1, true⟩]] else []⟩
theorem all1 {q : Nat → Prop} (h0 : q 0) : ∀ i, i < 1 → q i := fun i hi => by
  obtain rfl : i = 0 := by omega
  exact h0
theorem all2 {q : Nat → Prop} (h0 : q 0) (h1 : q 1) : ∀ i, i < 2 → q i := fun i hi => by
  rcases Nat.lt_or_ge i 1 with h | h
  · exact all1 h0 i h
  · obtain rfl : i = 1 := by omega
    exact h1
theorem all3 {q : Nat → Prop} (h0 : q 0) (h1 : q 1) (h2 : q 2) : ∀ i, i < 3 → q i := fun i hi => by
  rcases Nat.lt_or_ge i 2 with h | h
  · exact all2 h0 h1 i h
  · obtain rfl : i = 2 := by omega
    exact h2
theorem all4 {q : Nat → Prop} (h0 : q 0) (h1 : q 1) (h2 : q 2) (h3 : q 3) : ∀ i, i < 4 → q i := fun i hi => by
  rcases Nat.lt_or_ge i 3 with h | h
  · exact all3 h0 h1 h2 i h
  · obtain rfl : i = 3 := by omega
    exact h3
theorem all5 {q : Nat → Prop} (h0 : q 0) (h1 : q 1) (h2 : q 2) (h3 : q 3) (h4 : q 4) : ∀ i, i < 5 → q i := fun i hi => by
  rcases Nat.lt_or_ge i 4 with h | h
  · exact all4 h0 h1 h2 h3 i h
  · obtain rfl : i = 4 := by omega
    exact h4
def exX (n : Nat) (never : Bool) : PV :=
  ⟨some ⟨n + 1, 0, none⟩, 2, some ⟨n + 1 + 1, 0, none⟩, 2, some ⟨n + 1 + 1 + 1 + 1 + 1, 0, none⟩, 2, if never then some ⟨n + 1 + 1 + 1 + 1 + 1 + 1 + 1 + 1, 0, none⟩ else none, if never then 1 else 0,
    fun i => if i = 0 then some ⟨n + 1 + 1 + 1, 0, none⟩ else some ⟨n + 1 + 1 + 1 + 1, 0, none⟩, fun i => if i = 0 then 2 else 1, fun _ => some ⟨n + 1 + 1 + 1 + 1 + 1 + 1 + 1, 0, none⟩, fun _ => 2⟩
theorem ex_plant (w : World) (n : Nat) (never : Bool)
    (h1 : Bk w (n + 1) 68 #[.string ⟨#[97]⟩, .int .i64 100, .int .i64 10, .int .i64 500, .string ⟨#[98]⟩, .int .i64 100, .int .i64 10, .int .i64 500])
    (h2 : Bk w (n + 1 + 1) 59 #[.string ⟨#[118]⟩, .int .i64 2, .bool false, .string ⟨#[119]⟩, .int .i64 1, .bool false])
    (h3 : Bk w (n + 1 + 1 + 1) 3 #[.int .i64 0, .int .i64 1])
    (h4 : Bk w (n + 1 + 1 + 1 + 1) 3 #[.int .i64 1])
    (h5 : Bk w (n + 1 + 1 + 1 + 1 + 1) 66 #[.int .i64 0, .int .i64 1, .int .i64 30, .bool false, .slice (some ⟨n + 1 + 1 + 1, 0, none⟩) 2 2, .int .i64 (-1), .int .i64 0, .int .i64 50, .bool true, .slice (some ⟨n + 1 + 1 + 1 + 1, 0, none⟩) 1 1])
    (h6 : never = true → Bk w (n + 1 + 1 + 1 + 1 + 1 + 1 + 1) 51 #[.int .i64 0, .bool true, .int .i64 1, .bool true] ∧ Bk w (n + 1 + 1 + 1 + 1 + 1 + 1 + 1 + 1) 34 #[.slice (some ⟨n + 1 + 1 + 1 + 1 + 1 + 1 + 1, 0, none⟩) 2 2]) :
    PlantAt w w.heap.size (exX n never) (exP never) := by
  refine ⟨⟨by show 2 ≤ _; omega, fun _ => ⟨n + 1, 0, rfl, h1.lt, all2 (all4 (h1.cell _) (h1.cell _) (h1.cell _) (h1.cell _)) (all4 (h1.cell _) (h1.cell _) (h1.cell _) (h1.cell _))⟩⟩,
    ⟨by show 2 ≤ _; omega, fun _ => ⟨_, 0, rfl, h2.lt, all2 (all3 (h2.cell _) (h2.cell _) (h2.cell _)) (all3 (h2.cell _) (h2.cell _) (h2.cell _))⟩⟩,
    ⟨by show 2 ≤ _; omega, fun _ => ⟨_, 0, rfl, h5.lt, all2 (all5 (h5.cell _) (h5.cell _) (h5.cell _) (h5.cell _) (h5.cell _)) (all5 (h5.cell _) (h5.cell _) (h5.cell _) (h5.cell _) (h5.cell _))⟩⟩,
    all2 ⟨by show 2 ≤ _; omega, fun _ => ⟨_, 0, rfl, h3.lt, all2 (all1 (h3.cell _)) (all1 (h3.cell _))⟩⟩ ⟨by show 1 ≤ _; omega, fun _ => ⟨_, 0, rfl, h4.lt, all1 (all1 (h4.cell _))⟩⟩, ?_, ?_, by show 2 * 16 ≤ _ ∧ 2 * 16 ≤ _; omega⟩
  · cases never with
    | false => exact Sl.nil _ _ _ _ _
    | true =>
      obtain ⟨h6, h7⟩ := h6 rfl
      exact ⟨by show 1 ≤ _; omega, fun _ => ⟨_, 0, rfl, h7.lt, all1 (all1 (h7.cell _))⟩⟩
  · cases never with
    | false => intro i hi; exact absurd hi (by show ¬ i < 0; omega)
    | true =>
      obtain ⟨h6, h7⟩ := h6 rfl
      exact all1 ⟨by show 2 ≤ _; omega, fun _ => ⟨_, 0, rfl, h6.lt, all2 (all2 (h6.cell _) (h6.cell _)) (all2 (h6.cell _) (h6.cell _))⟩⟩

set_option maxRecDepth 100000 in
set_option maxHeartbeats 1000000 in
theorem example_any (w : World) (never : Bool) :
    Calls Try.prog 19 #[.bool never] w fun e w' => ∃ x, e = .returned (.agg (plantA x (exP never))) ∧ PlantAt w' w'.heap.size x (exP never) ∧ Below w.heap.size w w' := by
  have blk : ∀ (W : World) (m : Nat) (t : TypeId) (cs : Array Value), m = W.heap.size → Bk (W.alloc (.cells cs t)) m t cs := fun W m t cs h => Bk.newAt W t cs m h
  cases never with
  | false =>
    go_enter Try.func19, Try.ntmps19
    go_wp2_with fail
    refine bodyPost_ret (v := .agg (plantA (exX w.heap.size false) (exP false))) (results_cellS rfl _ _ w.heap.size 33 (plantA (exX w.heap.size false) (exP false)) _ rfl ?_ und_plant rfl info_plant) rfl ⟨exX w.heap.size false, rfl, ex_plant _ w.heap.size false ?_ ?_ ?_ ?_ ?_ (fun h => by cases h), ?_⟩
    · exact ((((((blk _ _ _ _ rfl).alloc _).alloc _).alloc _).alloc _).alloc _).alloc _
    · exact (((((blk _ _ _ _ (by simp)).alloc _).alloc _).alloc _).alloc _).alloc _
    · exact ((((blk _ _ _ _ (by simp)).alloc _).alloc _).alloc _).alloc _
    · exact (((blk _ _ _ _ (by simp)).alloc _).alloc _).alloc _
    · exact ((blk _ _ _ _ (by simp)).alloc _).alloc _
    · exact (blk _ _ _ _ (by simp)).alloc _
    · exact (((((((Below.refl _ _).alloc (Nat.le_refl _) _).alloc (by simp) _).alloc (by simp; omega) _).alloc (by simp; omega) _).alloc (by simp; omega) _).alloc (by simp; omega) _).alloc (by simp; omega) _
  | true =>
    go_enter Try.func19, Try.ntmps19
    go_wp2_with fail
    refine bodyPost_ret (v := .agg (plantA (exX w.heap.size true) (exP true))) (results_cellS rfl _ _ w.heap.size 33 (plantA (exX w.heap.size true) (exP true)) _ rfl ?_ und_plant rfl info_plant) rfl ⟨exX w.heap.size true, rfl, ex_plant _ w.heap.size true ?_ ?_ ?_ ?_ ?_ (fun _ => ⟨?_, ?_⟩), ?_⟩
    · exact ((((((((blk _ _ _ _ rfl).alloc _).alloc _).alloc _).alloc _).alloc _).alloc _).alloc _).alloc _
    · exact (((((((blk _ _ _ _ (by simp)).alloc _).alloc _).alloc _).alloc _).alloc _).alloc _).alloc _
    · exact ((((((blk _ _ _ _ (by simp)).alloc _).alloc _).alloc _).alloc _).alloc _).alloc _
    · exact (((((blk _ _ _ _ (by simp)).alloc _).alloc _).alloc _).alloc _).alloc _
    · exact ((((blk _ _ _ _ (by simp)).alloc _).alloc _).alloc _).alloc _
    · exact (((blk _ _ _ _ (by simp)).alloc _).alloc _).alloc _
    · exact (blk _ _ _ _ (by simp)).alloc _
    · exact blk _ _ _ _ (by simp)
    · exact (((((((((Below.refl _ _).alloc (Nat.le_refl _) _).alloc (by simp) _).alloc (by simp; omega) _).alloc (by simp; omega) _).alloc (by simp; omega) _).alloc (by simp; omega) _).alloc (by simp; omega) _).alloc (by simp; omega) _).alloc (by simp; omega) _
end Go.Proofs.Ytogobjmmgjfjjaa
