/- What is proved: contracts of engine.holds. Conditions: the plant lies in memory as the plain data say; the literal names a valve. -/
import Derived.Test.YtogobjmmgjfjjaaA5
import Derived.Test.YtogobjmmgjfjjaaRow
import Derived.Deep.QuietTactic
import Derived.BigQuiet
import Derived.IntWalk
namespace Go.Proofs.Ytogobjmmgjfjjaa
open Go.RowKit

/-- The twelve spots, cell by cell. -/
def spotsA (s : Spots) : Array Value := #[.int .i8 (s 0).place, .bool (s 0).opn, .int .i8 (s 1).place, .bool (s 1).opn, .int .i8 (s 2).place, .bool (s 2).opn, .int .i8 (s 3).place, .bool (s 3).opn, .int .i8 (s 4).place, .bool (s 4).opn, .int .i8 (s 5).place, .bool (s 5).opn, .int .i8 (s 6).place, .bool (s 6).opn, .int .i8 (s 7).place, .bool (s 7).opn, .int .i8 (s 8).place, .bool (s 8).opn, .int .i8 (s 9).place, .bool (s 9).opn, .int .i8 (s 10).place, .bool (s 10).opn, .int .i8 (s 11).place, .bool (s 11).opn]
theorem spotsA_size (s : Spots) : (spotsA s).size = 24 := rfl
theorem spots_get (s : Spots) (i : Nat) (hi : i < 12) : (spotsA s)[i * 2]? = some (.int .i8 (s i).place) ∧ (spotsA s)[i * 2 + 1]? = some (.bool (s i).opn) := by
  match i, hi with
  | 0, _ => exact ⟨rfl, rfl⟩
  | 1, _ => exact ⟨rfl, rfl⟩
  | 2, _ => exact ⟨rfl, rfl⟩
  | 3, _ => exact ⟨rfl, rfl⟩
  | 4, _ => exact ⟨rfl, rfl⟩
  | 5, _ => exact ⟨rfl, rfl⟩
  | 6, _ => exact ⟨rfl, rfl⟩
  | 7, _ => exact ⟨rfl, rfl⟩
  | 8, _ => exact ⟨rfl, rfl⟩
  | 9, _ => exact ⟨rfl, rfl⟩
  | 10, _ => exact ⟨rfl, rfl⟩
  | 11, _ => exact ⟨rfl, rfl⟩
theorem spots_set (s : Spots) (i : Nat) (hi : i < 12) (x : SpotD) : ((spotsA s).setIfInBounds (i * 2) (.int .i8 x.place)).setIfInBounds (i * 2 + 1) (.bool x.opn) = spotsA fun k => if k = i then x else s k := by
  match i, hi with
  | 0, _ => rfl
  | 1, _ => rfl
  | 2, _ => rfl
  | 3, _ => rfl
  | 4, _ => rfl
  | 5, _ => rfl
  | 6, _ => rfl
  | 7, _ => rfl
  | 8, _ => rfl
  | 9, _ => rfl
  | 10, _ => rfl
  | 11, _ => rfl
theorem spots_opn (s : Spots) (i : Nat) (hi : i < 12) (b : Bool) : (spotsA s).setIfInBounds (i * 2 + 1) (.bool b) = spotsA fun k => if k = i then ⟨(s i).place, b⟩ else s k := by
  match i, hi with
  | 0, _ => rfl
  | 1, _ => rfl
  | 2, _ => rfl
  | 3, _ => rfl
  | 4, _ => rfl
  | 5, _ => rfl
  | 6, _ => rfl
  | 7, _ => rfl
  | 8, _ => rfl
  | 9, _ => rfl
  | 10, _ => rfl
  | 11, _ => rfl
theorem spots_place (s : Spots) (i : Nat) (hi : i < 12) (n : Int) : (spotsA s).setIfInBounds (i * 2) (.int .i8 n) = spotsA fun k => if k = i then ⟨n, (s i).opn⟩ else s k := by
  match i, hi with
  | 0, _ => rfl
  | 1, _ => rfl
  | 2, _ => rfl
  | 3, _ => rfl
  | 4, _ => rfl
  | 5, _ => rfl
  | 6, _ => rfl
  | 7, _ => rfl
  | 8, _ => rfl
  | 9, _ => rfl
  | 10, _ => rfl
  | 11, _ => rfl
theorem spotsA_one (s : Spots) : ∀ u ∈ (spotsA s).toList, u.oneCell' = true := by
  simp [spotsA, Value.oneCell']
theorem spotsA_congr {s s' : Spots} (h : ∀ i, i < 12 → s i = s' i) : spotsA s = spotsA s' := by
  simp only [spotsA]
  rw [h 0 (by omega), h 1 (by omega), h 2 (by omega), h 3 (by omega), h 4 (by omega), h 5 (by omega), h 6 (by omega), h 7 (by omega), h 8 (by omega), h 9 (by omega), h 10 (by omega), h 11 (by omega)]
theorem splA_all (cs S : Array Value) (h : S.size = cs.size) : splA cs 0 S.toList = S := by
  apply Array.ext_getElem?
  intro i
  rw [splA_get _ _ _ _ (by simp; omega)]
  by_cases hi : i < S.size
  · rw [if_pos (by simpa using hi)]; simp
  · rw [if_neg (by simpa using hi), Array.getElem?_eq_none (by omega), Array.getElem?_eq_none (by omega)]
theorem alloc_cell (w : World) (t : TypeId) (cs : Array Value) (j : Nat) : (w.alloc (.cells cs t)).cell? ⟨w.heap.size, j, none⟩ = cs[j]? := World.cell?_alloc_new _ _ _ _

set_option maxRecDepth 100000 in
set_option maxHeartbeats 1000000 in
theorem holds_any (w : World) (x : PV) (p : PlantD) (h : PlantAt w w.heap.size x p) (s : Spots) (v : Nat) (o : Bool) (hv : v < p.valves.length) (h12 : v < 12) (hs : ∀ i, -128 ≤ (s i).place ∧ (s i).place ≤ 127) :
    Calls Try.prog 43 #[pval x p, .agg (spotsA s), .agg #[.int .i64 v, .bool o]] w fun e w' => e = .returned (.bool (holdsB p s ⟨v, o⟩)) ∧ Below w.heap.size w w' := by
  obtain ⟨tA, tc, vA, vc, lA, lc, nA, nc, iA, ic, jA, jc⟩ := x
  have hsl : Sl w w.heap.size 3 vA p.valves.length fun i => valveC (p.valve i) := h.valves
  have hn := hsl.1
  have g := spots_get s v h12
  have hsv := hs v
  have hvi : (v : Int) < (p.valves.length : Int) := by omega
  have h12i : (v : Int) < (12 : Int) := by omega
  have h0i : (0 : Int) ≤ (v : Int) := by omega
  have hw : IntKind.i64.wrap (s v).place = (s v).place := IntWalk.i64_in _ (by omega)
  obtain ⟨b, off, rfl, hB, c0, c1, c2⟩ := hsl.at3 hv
  simp only [valveC] at c0 c1 c2
  have hB1 : b < w.heap.size + 1 := by omega
  have hB2 : b < w.heap.size + 1 + 1 := by omega
  have hz := spotsA_size s
  dsimp only [pval]
  clear h hsl c0 c2
  cases o with
  | true =>
    go_enter Try.func43, Try.ntmps43
    go_wp2
    go_ret
    exact ⟨ret_bool (by simp [holdsB]), (((Below.refl _ _).alloc (Nat.le_refl _) _).alloc (by simp) _).alloc (by simp; omega) _⟩
  | false =>
    go_enter Try.func43, Try.ntmps43
    go_wp2
    go_quiet (fail)
    go_wp2
    go_ret
    exact ⟨ret_bool (by simp [holdsB]), below_drewN ((((Below.refl _ _).alloc (Nat.le_refl _) _).alloc (by simp) _).alloc (by simp; omega) _) _⟩
end Go.Proofs.Ytogobjmmgjfjjaa
