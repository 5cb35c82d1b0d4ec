/- What is proved: contracts of engine.lined, engine.literals and their closures. Conditions: the plant lies in memory as the plain data say. -/
import Derived.Test.YtogobjmmgjfjjaaA3
namespace Go.Proofs.Ytogobjmmgjfjjaa
open Go.RowKit

set_option maxHeartbeats 400000 in
theorem end_any (w : World) (t : Int) (bp n c : Nat) (A : Option Addr) (hn : n ≤ 9223372036854775807) (hp : w.cell? ⟨bp, 0, none⟩ = some (.slice A n c)) :
    Calls Try.prog 74 #[.int .i64 t, .pointer (some ⟨bp, 0, none⟩)] w fun e w' => e = .returned (.bool (inB t (-1) (n - 1))) ∧ w = w' := by
  go_enter Try.func74, Try.ntmps74
  go_wp2_with (go_at_call 17; refine (within_any _ _ _ _).mono ?_; rintro e w' ⟨rfl, rfl⟩)
  go_ret
  exact ⟨rfl, rfl⟩
set_option maxHeartbeats 400000 in
theorem valveIn_any (w : World) (t : Int) (bp n c : Nat) (A : Option Addr) (hn : n ≤ 9223372036854775807) (hp : w.cell? ⟨bp, 1, none⟩ = some (.slice A n c)) :
    Calls Try.prog 75 #[.int .i64 t, .pointer (some ⟨bp, 0, none⟩)] w fun e w' => e = .returned (.bool (inB t 0 (n - 1))) ∧ w = w' := by
  go_enter Try.func75, Try.ntmps75
  go_wp2_with (go_at_call 17; refine (within_any _ _ _ _).mono ?_; rintro e w' ⟨rfl, rfl⟩)
  go_ret
  exact ⟨rfl, rfl⟩
set_option maxHeartbeats 400000 in
theorem litIn_any (w : World) (l : LitD) (bp n c : Nat) (A : Option Addr) (hn : n ≤ 9223372036854775807) (hlt : bp < w.heap.size) (hp : w.cell? ⟨bp, 1, none⟩ = some (.slice A n c)) :
    Calls Try.prog 60 #[.agg #[litC l 0, litC l 1], .pointer (some ⟨bp, 0, none⟩)] w fun e w' => e = .returned (.bool (inB l.valve 0 (n - 1))) ∧ Below w.heap.size w w' := by
  simp only [litC]
  go_enter Try.func60, Try.ntmps60
  go_wp2_with (go_at_call 17; refine (within_any _ _ _ _).mono ?_; rintro e w' ⟨rfl, rfl⟩)
  go_ret
  exact ⟨rfl, (Below.refl _ _).alloc (Nat.le_refl _) _⟩

set_option maxRecDepth 100000 in
set_option maxHeartbeats 1000000 in
theorem lineOk_any (w : World) (A : Option Addr) (c : Nat) (l : LineD) (hl : IntsAt w w.heap.size A l.valves) (bp be bv nt tc nv vc : Nat) (tA vA : Option Addr) (hnt : nt ≤ 9223372036854775807) (hnv : nv ≤ 9223372036854775807)
    (hp : bp < w.heap.size) (he : be < w.heap.size) (hv : bv < w.heap.size)
    (c0 : w.cell? ⟨bp, 0, none⟩ = some (.slice tA nt tc)) (c1 : w.cell? ⟨bp, 1, none⟩ = some (.slice vA nv vc))
    (ce : w.cell? ⟨be, 0, none⟩ = some (.func (.func 74) #[] #[.pointer (some ⟨bp, 0, none⟩)]))
    (cv : w.cell? ⟨bv, 0, none⟩ = some (.func (.func 75) #[] #[.pointer (some ⟨bp, 0, none⟩)])) :
    Calls Try.prog 77 #[.agg #[lineC A c l 0, lineC A c l 1, lineC A c l 2, lineC A c l 3, lineC A c l 4], .pointer (some ⟨be, 0, none⟩), .pointer (some ⟨bv, 0, none⟩)] w
      fun e w' => e = .returned (.bool (lineOk nt nv l)) ∧ Below w.heap.size w w' := by
  simp only [lineC]
  have hb : ∀ o, Below w.heap.size w (w.alloc o) := fun o => (Below.refl _ _).alloc (Nat.le_refl _) _
  have hin : ∀ o, IntsAt (w.alloc o) (w.alloc o).heap.size A l.valves := fun o => Sl.mono (Sl.below hl (hb o)) (by simp)
  have HALL : Hid (∀ o, Calls Try.prog 64 #[.slice A l.valves.length c, .func (.func 75) #[] #[.pointer (some ⟨bp, 0, none⟩)]] (w.alloc o)
      fun e w' => e = .returned (.bool (allN l.valves.length fun i => inB (l.valves.getD i 0) 0 (nv - 1))) ∧ Below (w.alloc o).heap.size (w.alloc o) w') := Lib.hid fun o => by
    refine allInt (w.alloc o) A l.valves.length c _ (hin o) 75 _ (fun i => inB (l.valves.getD i 0) 0 (nv - 1)) (fun args w => by kernel_rfl) ?_
    intro w' hw' i hi
    refine (valveIn_any w' (l.valves.getD i 0) bp nv vc vA hnv ?_).mono ?_
    · rw [hw'.cell (p := ⟨bp, 1, none⟩) (by simp; omega), (hb o).cell (p := ⟨bp, 1, none⟩) hp]; exact c1
    · rintro e w'' ⟨he, rfl⟩; exact ⟨he, Below.refl _ _⟩
  have HEND : Hid (∀ o t, Calls Try.prog 74 #[.int .i64 t, .pointer (some ⟨bp, 0, none⟩)] (w.alloc o) fun e w' => e = .returned (.bool (inB t (-1) (nt - 1))) ∧ w.alloc o = w') := Lib.hid fun o t =>
    end_any _ _ bp nt tc tA hnt (by rw [(hb o).cell (p := ⟨bp, 0, none⟩) hp]; exact c0)
  have hn := hl.1
  have hok : lineOk nt nv l = (inB l.src (-1) (nt - 1) && inB l.dst (-1) (nt - 1) && !decide (l.src = l.dst) && inB l.flow 1 1073741824 && inB l.valves.length 1 4 && allN l.valves.length fun i => inB (l.valves.getD i 0) 0 (nv - 1)) := rfl
  have HOK := Lib.hid hok; clear hok hl hin
  cases h1 : inB l.src (-1) (nt - 1) with
  | false =>
    go_enter Try.func77, Try.ntmps77
    go_wp2_with (first | (go_at_call 74; refine (HEND.out _ _).mono ?_; rintro e w' ⟨rfl, rfl⟩) | (go_at_call 17; refine (within_any _ _ _ _).mono ?_; rintro e w' ⟨rfl, rfl⟩) | (go_at_call 64; refine (HALL.out _).mono ?_; rintro e w' ⟨rfl, hb'⟩))
    go_ret
    exact ⟨ret_bool (by rw [HOK.out]; simp [h1]), hb _⟩
  | true =>
  cases h2 : inB l.dst (-1) (nt - 1) with
  | false =>
    go_enter Try.func77, Try.ntmps77
    go_wp2_with (first | (go_at_call 74; refine (HEND.out _ _).mono ?_; rintro e w' ⟨rfl, rfl⟩) | (go_at_call 17; refine (within_any _ _ _ _).mono ?_; rintro e w' ⟨rfl, rfl⟩) | (go_at_call 64; refine (HALL.out _).mono ?_; rintro e w' ⟨rfl, hb'⟩))
    go_ret
    exact ⟨ret_bool (by rw [HOK.out]; simp [h1, h2]), hb _⟩
  | true =>
  by_cases h3 : l.src = l.dst
  · have h3' : (l.src != l.dst) = false := by simp [h3]
    have H3 := Lib.hid h3; clear h3
    go_enter Try.func77, Try.ntmps77
    go_wp2_with (first | (go_at_call 74; refine (HEND.out _ _).mono ?_; rintro e w' ⟨rfl, rfl⟩) | (go_at_call 17; refine (within_any _ _ _ _).mono ?_; rintro e w' ⟨rfl, rfl⟩) | (go_at_call 64; refine (HALL.out _).mono ?_; rintro e w' ⟨rfl, hb'⟩))
    go_ret
    exact ⟨ret_bool (by rw [HOK.out]; simp [h2, H3.out]), hb _⟩
  · have h3' : (l.src != l.dst) = true := by simp [h3]
    have H3 := Lib.hid h3; clear h3
    cases h4 : inB l.flow 1 1073741824 with
    | false =>
      go_enter Try.func77, Try.ntmps77
      go_wp2_with (first | (go_at_call 74; refine (HEND.out _ _).mono ?_; rintro e w' ⟨rfl, rfl⟩) | (go_at_call 17; refine (within_any _ _ _ _).mono ?_; rintro e w' ⟨rfl, rfl⟩) | (go_at_call 64; refine (HALL.out _).mono ?_; rintro e w' ⟨rfl, hb'⟩))
      go_ret
      exact ⟨ret_bool (by rw [HOK.out]; simp [h1, h2, H3.out, h4]), hb _⟩
    | true =>
    cases h5 : inB l.valves.length 1 4 with
    | false =>
      go_enter Try.func77, Try.ntmps77
      go_wp2_with (first | (go_at_call 74; refine (HEND.out _ _).mono ?_; rintro e w' ⟨rfl, rfl⟩) | (go_at_call 17; refine (within_any _ _ _ _).mono ?_; rintro e w' ⟨rfl, rfl⟩) | (go_at_call 64; refine (HALL.out _).mono ?_; rintro e w' ⟨rfl, hb'⟩))
      go_ret
      exact ⟨ret_bool (by rw [HOK.out]; simp [h1, h2, H3.out, h4, h5]), hb _⟩
    | true =>
      go_enter Try.func77, Try.ntmps77
      go_wp2_with (first | (go_at_call 74; refine (HEND.out _ _).mono ?_; rintro e w' ⟨rfl, rfl⟩) | (go_at_call 17; refine (within_any _ _ _ _).mono ?_; rintro e w' ⟨rfl, rfl⟩) | (go_at_call 64; refine (HALL.out _).mono ?_; rintro e w' ⟨rfl, hb'⟩))
      go_ret
      exact ⟨ret_bool (by rw [HOK.out]; simp [h1, h2, H3.out, h4, h5]), (hb _).trans (hb'.mono (by simp))⟩

end Go.Proofs.Ytogobjmmgjfjjaa
