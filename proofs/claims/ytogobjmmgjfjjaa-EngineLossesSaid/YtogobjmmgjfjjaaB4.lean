/- What is proved: contracts of engine.safe and engine.CheckPlant. Conditions: the plant lies in memory as the plain data say. -/
import Derived.Test.YtogobjmmgjfjjaaB3
namespace Go.Proofs.Ytogobjmmgjfjjaa
open Go.RowKit

def NeverOk (p : PlantD) : Prop := ∀ i, i < p.never.length → ∀ k, k < (p.nev i).length → 0 ≤ ((p.nev i).getD k lit0).valve ∧ ((p.nev i).getD k lit0).valve < p.valves.length

set_option maxHeartbeats 1000000 in
theorem notSafeSet_any (w : World) (x : PV) (p : PlantD) (h : PlantAt w w.heap.size x p) (s : Spots) (hs : PlacesOk s) (hv12 : p.valves.length ≤ 12) (hN : NeverOk p) (i : Nat) (hi : i < p.never.length)
    (mb sb pb : Nat) (hmb : Bk w mb 110 #[.func (.func 80) #[] #[.pointer (some ⟨sb, 0, none⟩), .pointer (some ⟨pb, 0, none⟩)]])
    (hsb : Bk w sb 74 (spotsA s)) (hpb : Bk w pb 33 (plantA x p)) :
    Calls Try.prog 81 #[.slice (x.jA i) (p.nev i).length (x.jc i), .pointer (some ⟨mb, 0, none⟩)] w
      fun e w' => e = .returned (.bool (!(allN (p.nev i).length fun k => mayB p s ((p.nev i).getD k lit0)))) ∧ Below w.heap.size w w' := by
  have c := hmb.cell 0
  have HALL := Lib.hid (allLit w (x.jA i) (p.nev i).length (x.jc i) _ (h.nv i hi) 80 #[.pointer (some ⟨sb, 0, none⟩), .pointer (some ⟨pb, 0, none⟩)] (fun k => mayB p s ((p.nev i).getD k lit0)) (fun args w => by kernel_rfl) (fun w1 hw1 k hk => by
    have key : ∀ L : LitD, 0 ≤ L.valve → L.valve < p.valves.length → Calls Try.prog 80 (#[.agg #[litC L 0, litC L 1]] ++ #[.pointer (some ⟨sb, 0, none⟩), .pointer (some ⟨pb, 0, none⟩)]) w1
        fun e w'' => e = .returned (.bool (mayB p s L)) ∧ Below w1.heap.size w1 w'' := by
      rintro ⟨v, o⟩ h0 h1
      obtain ⟨n, rfl⟩ := Int.eq_ofNat_of_zero_le h0
      simp only at h1
      exact may_any w1 x p ((h.below hw1).mono hw1.size) s hs n o (by omega) (by omega) sb pb (hsb.below hw1 hsb.lt) (hpb.below hw1 hpb.lt)
    exact key _ (hN i hi k hk).1 (hN i hi k hk).2))
  clear h hmb hsb hpb
  go_enter Try.func81, Try.ntmps81
  go_wp2_with fail
  refine HALL.out.mono ?_
  rintro e w' ⟨rfl, hb⟩
  go_wp2_with fail
  go_ret
  exact ⟨rfl, hb⟩

set_option maxRecDepth 100000 in
set_option maxHeartbeats 1000000 in
theorem safe_any (w : World) (x : PV) (p : PlantD) (h : PlantAt w w.heap.size x p) (s : Spots) (hs : PlacesOk s) (hv12 : p.valves.length ≤ 12) (hN : NeverOk p) :
    Calls Try.prog 53 #[.agg (plantA x p), .agg (spotsA s)] w fun e w' => e = .returned (.bool (safeB p s)) ∧ Below w.heap.size w w' := by
  have hz := spotsA_size s
  let w1 := w.alloc (.cells (plantA x p) 33)
  let w2 := w1.alloc (.cells (spotsA s) 74)
  let w3 := w2.alloc (.cells #[.func (.func 80) #[] #[.pointer (some ⟨w.heap.size + 1, 0, none⟩), .pointer (some ⟨w.heap.size, 0, none⟩)]] 110)
  have hb : Below w.heap.size w w3 := (((Below.refl _ _).alloc (Nat.le_refl _) _).alloc (by simp) _).alloc (by simp; omega) _
  have hs3 : w3.heap.size = w.heap.size + 3 := by simp [w3, w2, w1]
  have h1 : Bk w3 w.heap.size 33 (plantA x p) := ((Bk.new _ _ _).alloc _).alloc _
  have h2 : Bk w3 (w.heap.size + 1) 74 (spotsA s) := (Bk.newAt w1 _ _ _ (by simp [w1])).alloc _
  have h3 : Bk w3 (w.heap.size + 2) 110 #[.func (.func 80) #[] #[.pointer (some ⟨w.heap.size + 1, 0, none⟩), .pointer (some ⟨w.heap.size, 0, none⟩)]] := Bk.newAt w2 _ _ _ (by simp [w2, w1])
  have h4 := (h.below hb).mono (show w.heap.size ≤ w3.heap.size by omega)
  have HALL := Lib.hid (allLits w3 x.nA p.never.length x.nc _ h4.never 81 #[.pointer (some ⟨w.heap.size + 2, 0, none⟩)] (fun i => !(allN (p.nev i).length fun k => mayB p s ((p.nev i).getD k lit0))) (fun args w => by kernel_rfl) (fun w4 hw4 i hi => by
    have hsz := hw4.size
    exact notSafeSet_any w4 x p ((h4.below hw4).mono hsz) s hs hv12 hN i hi (w.heap.size + 2) (w.heap.size + 1) w.heap.size (h3.below hw4 h3.lt) (h2.below hw4 h2.lt) (h1.below hw4 h1.lt)))
  have HB := Lib.hid hb
  have HS := Lib.hid hs3
  clear h h1 h2 h3 h4 hb hs3
  simp only [w3, w2, w1, plantA] at HALL HB HS ⊢
  clear w3 w2 w1
  go_enter Try.func53, Try.ntmps53
  go_wp2_with fail
  refine HALL.out.mono ?_
  rintro e w' ⟨rfl, hb'⟩
  go_wp2_with fail
  go_ret
  exact ⟨rfl, HB.out.trans (hb'.mono (by rw [HS.out]; omega))⟩
end Go.Proofs.Ytogobjmmgjfjjaa
