/- What is proved: the texts R1 R2 R3 R4 R5 R6, one behind the other; each says at its head what it proves, and under which conditions. -/
import Derived.Test.YtogobjmmgjfjjaaGreatdPPaths4
/- What is proved: a state of ullageref07 in memory; contracts of its with and withBool. Conditions: the list lies in memory; it is short. -/
namespace Go.Proofs.YtogobjmmgjfjjaaGreat
open Go.RowKit

/-- Where the lists of a state lie. -/
structure RX where
  a : Nat → Option Addr
  c : Nat → Nat
def RX.upd (R : RX) (k : Nat) (A : Option Addr) (c : Nat) : RX := ⟨fun j => if j = k then A else R.a j, fun j => if j = k then c else R.c j⟩
def lenR (p : PlantD) : Nat → Nat
  | 2 => p.valves.length
  | 3 => p.valves.length
  | 4 => p.valves.length
  | 6 => p.lines.length
  | _ => p.tanks.length
def valR (S : Sys) : Nat → Nat → Value
  | 0, i => .int .i64 (S.tank i).content
  | 1, i => .int .i64 (S.tank i).gas
  | 2, i => .int .i64 (S.at_ i).place
  | 3, i => .bool (S.at_ i).opn
  | 4, i => .bool (S.stuck i)
  | 5, i => .int .i64 (S.tank i).leak
  | 6, i => .int .i64 (S.carried i)
  | 7, i => .int .i64 (S.tank i).lost
  | _, i => .int .i64 (S.tank i).vented
def refA (R : RX) (nt nv nl : Nat) : Array Value :=
  #[.slice (R.a 0) nt (R.c 0), .slice (R.a 1) nt (R.c 1), .slice (R.a 2) nv (R.c 2), .slice (R.a 3) nv (R.c 3), .slice (R.a 4) nv (R.c 4), .slice (R.a 5) nt (R.c 5), .slice (R.a 6) nl (R.c 6), .slice (R.a 7) nt (R.c 7), .slice (R.a 8) nt (R.c 8)]
theorem refA_size (R : RX) (nt nv nl : Nat) : (refA R nt nv nl).size = 9 := rfl
theorem refA_one (R : RX) (nt nv nl : Nat) : ∀ u ∈ (refA R nt nv nl).toList, u.oneCell' = true := by
  intro u hu; simp [refA] at hu; rcases hu with rfl | rfl | rfl | rfl | rfl | rfl | rfl | rfl | rfl <;> rfl
abbrev SysA (R : RX) (S : Sys) : Array Value := refA R S.p.tanks.length S.p.valves.length S.p.lines.length
theorem SysA_get (R : RX) (S : Sys) (k : Nat) (hk : k < 9) : (SysA R S)[k]? = some (.slice (R.a k) (lenR S.p k) (R.c k)) := by
  match k, hk with
  | 0, _ => rfl
  | 1, _ => rfl
  | 2, _ => rfl
  | 3, _ => rfl
  | 4, _ => rfl
  | 5, _ => rfl
  | 6, _ => rfl
  | 7, _ => rfl
  | 8, _ => rfl
theorem SysA_set (R : RX) (S : Sys) (k : Nat) (hk : k < 9) (A : Option Addr) (c : Nat) : (SysA R S).setIfInBounds k (.slice A (lenR S.p k) c) = SysA (R.upd k A c) S := by
  match k, hk with
  | 0, _ => rfl
  | 1, _ => rfl
  | 2, _ => rfl
  | 3, _ => rfl
  | 4, _ => rfl
  | 5, _ => rfl
  | 6, _ => rfl
  | 7, _ => rfl
  | 8, _ => rfl
/-- Some old blocks in which no list of a state lies. -/
class Exc where
  ex : Nat → Prop
  top : Nat
  lt : ∀ b, ex b → b < top
/-- A list that lies in none of them. -/
structure SlO [Exc] (w : World) (D : Nat → Prop) (A : Option Addr) (n : Nat) (f : Nat → Nat → Value) : Prop where
  sl : SlD w D 1 A n f
  top : Exc.top ≤ w.heap.size
  out : ∀ b off, 0 < n → A = some ⟨b, off, none⟩ → ¬ Exc.ex b
theorem SlO.keep [Exc] {w w' : World} {D : Nat → Prop} {A : Option Addr} {n : Nat} {f : Nat → Nat → Value} (h : SlO w D A n f) (hk : ∀ b, D b → w'.heap[b]? = w.heap[b]?) (hs : w.heap.size ≤ w'.heap.size) : SlO w' D A n f :=
  ⟨h.sl.keep hk, Nat.le_trans h.top hs, h.out⟩
theorem SlO.mono [Exc] {w : World} {D D' : Nat → Prop} {A : Option Addr} {n : Nat} {f : Nat → Nat → Value} (h : SlO w D A n f) (hD : ∀ b, D b → D' b) : SlO w D' A n f := ⟨h.sl.mono hD, h.top, h.out⟩
theorem SlO.of_new [Exc] {w : World} {D D' : Nat → Prop} {A : Option Addr} {n : Nat} {f : Nat → Nat → Value} (h : SlD w D 1 A n f) (ht : Exc.top ≤ w.heap.size) (hD : ∀ b, D b → D' b ∧ Exc.top ≤ b) : SlO w D' A n f :=
  ⟨h.mono fun b hb => (hD b hb).1, ht, fun b off hn hA he => by
    obtain ⟨b', off', hA', hb, _⟩ := h.2 hn
    obtain ⟨rfl, rfl⟩ : b = b' ∧ off = off' := by rw [hA] at hA'; simpa using hA'
    have := Exc.lt b he
    have := (hD b hb).2
    omega⟩
/-- The state's lists, in blocks that D tells. -/
def RefIn [Exc] (w : World) (D : Nat → Prop) (R : RX) (S : Sys) : Prop := ∀ k, k < 9 → SlO w D (R.a k) (lenR S.p k) fun i _ => valR S k i
/-- The state's lists, below block B. -/
def RefAt [Exc] (w : World) (B : Nat) (R : RX) (S : Sys) : Prop := ∀ k, k < 9 → SlO w (· < B) (R.a k) (lenR S.p k) fun i _ => valR S k i
section
variable {w w' : World} {B : Nat} {D : Nat → Prop} {R : RX} {S S' : Sys}
theorem RefAt.below [Exc] (h : RefAt w B R S) (hb : Below B w w') : RefAt w' B R S := fun k hk => (h k hk).keep (fun b hb' => hb.block b hb') hb.size
theorem RefAt.mono [Exc] {B' : Nat} (h : RefAt w B R S) (hb : B ≤ B') : RefAt w B' R S := fun k hk => SlO.mono (h k hk) fun _ hb' => Nat.lt_of_lt_of_le hb' hb
theorem RefAt.place [Exc] (h : RefAt w B R S) : Sl w B 1 (R.a 2) S.p.valves.length fun i _ => .int .i64 (S.at_ i).place := (h 2 (by omega)).sl
theorem RefAt.want [Exc] (h : RefAt w B R S) : Sl w B 1 (R.a 3) S.p.valves.length fun i _ => .bool (S.at_ i).opn := (h 3 (by omega)).sl
theorem RefAt.top [Exc] (h : RefAt w B R S) : Exc.top ≤ w.heap.size := (h 0 (by omega)).top
theorem RefIn.at_ [Exc] (h : RefIn w D R S) (hD : ∀ b, D b → b < B) : RefAt w B R S := fun k hk => SlO.mono (h k hk) hD
theorem RefIn.keep [Exc] (h : RefIn w D R S) (hk : ∀ b, D b → w'.heap[b]? = w.heap[b]?) (hs : w.heap.size ≤ w'.heap.size) : RefIn w' D R S := fun k hk' => SlO.keep (h k hk') hk hs
theorem RefIn.mono [Exc] {D' : Nat → Prop} (h : RefIn w D R S) (hD : ∀ b, D b → D' b) : RefIn w D' R S := fun k hk => SlO.mono (h k hk) hD
theorem RefIn.upd [Exc] (h : RefIn w D R S) {k : Nat} {A : Option Addr} {c : Nat} (hA : SlO w D A (lenR S.p k) fun i _ => valR S' k i) (hp : S'.p = S.p) (hv : ∀ j, j < 9 → j ≠ k → ∀ i, valR S' j i = valR S j i) : RefIn w D (R.upd k A c) S' := by
  intro j hj
  rw [hp]
  unfold RX.upd
  by_cases e : j = k
  · subst e; simp only [if_true]; exact hA
  · simp only [if_neg e]
    have := h j hj
    rw [show (fun i (_ : Nat) => valR S' j i) = (fun i (_ : Nat) => valR S j i) from by funext i _; exact hv j hj e i]
    exact this
end
theorem und_state : Tryz.prog.underlying 53 = some (.struct (match Tryz.prog.underlying 53 with | some (.struct f) => f | _ => #[])) := by kernel_rfl
theorem info_state : (Tryz.prog.info? 53).map (·.size) = some 9 := by kernel_rfl

theorem infoC_rwith : (Tryz.prog.info? 3).map (fun i => (i.zero, i.size, i.bytes)) = some (some (.int .i64 0), 1, 8) := by kernel_rfl
set_option maxRecDepth 100000 in
set_option maxHeartbeats 1000000 in
theorem rwith_any (w : World) (A : Option Addr) (n c : Nat) (f : Nat → Int) (h : Sl w w.heap.size 1 A n fun i _ => .int .i64 (f i)) (hn : n ≤ 4096) (i : Nat) (hi : i < n) (v : Int) :
    Calls Tryz.prog 113 #[.slice A n c, .int .i64 i, .int .i64 v] w fun e w' => ∃ A' c', e = .returned (.slice A' n c') ∧ SlD w' (fun b => w.heap.size ≤ b ∧ b < w'.heap.size) 1 A' n (fun k _ => .int .i64 (if k = i then v else f k)) ∧ Below w.heap.size w w' := by
  obtain ⟨b, off, rfl, hB, hc⟩ := h.2 (by omega)
  obtain ⟨i0, hi0, hz0, hz1, hz2⟩ := info_parts infoC_rwith
  have hii : (i : Int) < (n : Int) := by omega
  have h0i : (0 : Int) ≤ (i : Int) := by omega
  have hcell : Hid (∀ o j u, (rowsL n 1 fun i _ => .int .i64 (f i))[j]? = some u → (w.alloc o).cell? ((⟨b, off, none⟩ : Addr).add j) = some u) := Lib.hid fun o j u hj => by
    rw [Addr.add_lit]
    exact Lib.cell?_alloc_some _ (rowsL_cell hc j u hj)
  clear h hc
  go_enter Tryz.func113, Tryz.ntmps113
  go_wp2_with (at_builtin; refine wpList_append_own _ rfl _ _ 50 rfl w.heap.size 3 i0 (.int .i64 0) 1 8 Tryz.underlying50 hi0 hz0 hz1 hz2 rfl (by decide) _ _ _ rfl (World.ownsRow_made w #[] 0 (Nat.le_refl _) (Nat.zero_le _) rfl) ⟨b, off, none⟩ n c (rowsL n 1 fun i _ => .int .i64 (f i)) rfl ?qc1 ?qc2 ?qc3 ?qc4 ?qc5 ?qc6 ?_)
  case qc1 => exact rowsL_len _ _ _
  case qc2 => exact hcell.out _
  case qc3 => exact rowsL_one fun _ _ => rfl
  case qc4 => unfold maxLen; omega
  case qc5 => omega
  case qc6 => simp
  intro v' w1 hown hgrow _
  obtain ⟨A', c', rfl, hcl⟩ := Cl.of_own hn (by simpa only [Nat.zero_add, List.nil_append] using hown)
  have hB : Below w.heap.size w w1 := ((Below.refl _ w).alloc (Nat.le_refl _) _).grown hgrow (by simp) (by intro k hk; simp [Value.ownBlock] at hk; omega)
  obtain ⟨_, hcl⟩ := hcl
  obtain ⟨g, cur, rfl, hg, hbk, hcur⟩ := hcl (by omega)
  have q0 : w1.cell? ⟨g, i, none⟩ = some (.int .i64 (f i)) := (hbk.cell i).trans (by have := hcur i hi 0 (by omega); simpa using this)
  have f0 := hbk.free i
  have HB := Lib.hid (hB.setCell (p := ⟨g, i, none⟩) hg (.int .i64 v))
  have HS : Hid (SlD (w1.setCell ⟨g, i, none⟩ (.int .i64 v)) (fun b => w.heap.size ≤ b ∧ b < (w1.setCell ⟨g, i, none⟩ (.int .i64 v)).heap.size) 1 (some ⟨g, 0, none⟩) n (fun k _ => .int .i64 (if k = i then v else f k))) := Lib.hid (by
    refine ⟨by omega, fun _ => ⟨g, 0, rfl, ⟨hg, (hbk.set i _).lt⟩, fun k hk j hj => ?_⟩⟩
    obtain rfl : j = 0 := by omega
    rw [show 0 + k * 1 + 0 = k from by omega, (hbk.set i (.int .i64 v)).cell k]
    have hk2 := hcur k hk 0 (by omega)
    simp only [Nat.mul_one, Nat.add_zero] at hk2
    rw [Array.getElem?_setIfInBounds]
    by_cases e : i = k
    · subst e
      rw [if_pos rfl, if_pos (Array.getElem?_eq_some_iff.1 hk2).1]
      show some (Value.int .i64 v) = some (.int .i64 (if i = i then v else f i))
      rw [if_pos rfl]
    · rw [if_neg e]
      show cur[k]? = some (.int .i64 (if k = i then v else f k))
      rw [if_neg (fun h => e h.symm)]; exact hk2)
  clear hown hgrow hcl hcur hbk hB hcell
  go_wp2_with fail
  go_ret
  exact ⟨_, _, rfl, HS.out, HB.out⟩

theorem infoC_withBool : (Tryz.prog.info? 4).map (fun i => (i.zero, i.size, i.bytes)) = some (some (.bool false), 1, 1) := by kernel_rfl
set_option maxRecDepth 100000 in
set_option maxHeartbeats 1000000 in
theorem withBool_any (w : World) (A : Option Addr) (n c : Nat) (f : Nat → Bool) (h : Sl w w.heap.size 1 A n fun i _ => .bool (f i)) (hn : n ≤ 4096) (i : Nat) (hi : i < n) (v : Bool) :
    Calls Tryz.prog 112 #[.slice A n c, .int .i64 i, .bool v] w fun e w' => ∃ A' c', e = .returned (.slice A' n c') ∧ SlD w' (fun b => w.heap.size ≤ b ∧ b < w'.heap.size) 1 A' n (fun k _ => .bool (if k = i then v else f k)) ∧ Below w.heap.size w w' := by
  obtain ⟨b, off, rfl, hB, hc⟩ := h.2 (by omega)
  obtain ⟨i0, hi0, hz0, hz1, hz2⟩ := info_parts infoC_withBool
  have hii : (i : Int) < (n : Int) := by omega
  have h0i : (0 : Int) ≤ (i : Int) := by omega
  have hcell : Hid (∀ o j u, (rowsL n 1 fun i _ => .bool (f i))[j]? = some u → (w.alloc o).cell? ((⟨b, off, none⟩ : Addr).add j) = some u) := Lib.hid fun o j u hj => by
    rw [Addr.add_lit]
    exact Lib.cell?_alloc_some _ (rowsL_cell hc j u hj)
  clear h hc
  go_enter Tryz.func112, Tryz.ntmps112
  go_wp2_with (at_builtin; refine wpList_append_own _ rfl _ _ 51 rfl w.heap.size 4 i0 (.bool false) 1 1 Tryz.underlying51 hi0 hz0 hz1 hz2 rfl (by decide) _ _ _ rfl (World.ownsRow_made w #[] 0 (Nat.le_refl _) (Nat.zero_le _) rfl) ⟨b, off, none⟩ n c (rowsL n 1 fun i _ => .bool (f i)) rfl ?qc1 ?qc2 ?qc3 ?qc4 ?qc5 ?qc6 ?_)
  case qc1 => exact rowsL_len _ _ _
  case qc2 => exact hcell.out _
  case qc3 => exact rowsL_one fun _ _ => rfl
  case qc4 => unfold maxLen; omega
  case qc5 => omega
  case qc6 => simp
  intro v' w1 hown hgrow _
  obtain ⟨A', c', rfl, hcl⟩ := Cl.of_own hn (by simpa only [Nat.zero_add, List.nil_append] using hown)
  have hB : Below w.heap.size w w1 := ((Below.refl _ w).alloc (Nat.le_refl _) _).grown hgrow (by simp) (by intro k hk; simp [Value.ownBlock] at hk; omega)
  obtain ⟨_, hcl⟩ := hcl
  obtain ⟨g, cur, rfl, hg, hbk, hcur⟩ := hcl (by omega)
  have q0 : w1.cell? ⟨g, i, none⟩ = some (.bool (f i)) := (hbk.cell i).trans (by have := hcur i hi 0 (by omega); simpa using this)
  have f0 := hbk.free i
  have HB := Lib.hid (hB.setCell (p := ⟨g, i, none⟩) hg (.bool v))
  have HS : Hid (SlD (w1.setCell ⟨g, i, none⟩ (.bool v)) (fun b => w.heap.size ≤ b ∧ b < (w1.setCell ⟨g, i, none⟩ (.bool v)).heap.size) 1 (some ⟨g, 0, none⟩) n (fun k _ => .bool (if k = i then v else f k))) := Lib.hid (by
    refine ⟨by omega, fun _ => ⟨g, 0, rfl, ⟨hg, (hbk.set i _).lt⟩, fun k hk j hj => ?_⟩⟩
    obtain rfl : j = 0 := by omega
    rw [show 0 + k * 1 + 0 = k from by omega, (hbk.set i (.bool v)).cell k]
    have hk2 := hcur k hk 0 (by omega)
    simp only [Nat.mul_one, Nat.add_zero] at hk2
    rw [Array.getElem?_setIfInBounds]
    by_cases e : i = k
    · subst e
      rw [if_pos rfl, if_pos (Array.getElem?_eq_some_iff.1 hk2).1]
      show some (Value.bool v) = some (.bool (if i = i then v else f i))
      rw [if_pos rfl]
    · rw [if_neg e]
      show cur[k]? = some (.bool (if k = i then v else f k))
      rw [if_neg (fun h => e h.symm)]; exact hk2)
  clear hown hgrow hcl hcur hbk hB hcell
  go_wp2_with fail
  go_ret
  exact ⟨_, _, rfl, HS.out, HB.out⟩
end Go.Proofs.YtogobjmmgjfjjaaGreat
/- What is proved: contracts of ullageref07's holds, Holds, Literals, safe. Conditions: the plant and the state lie in memory. -/
namespace Go.Proofs.YtogobjmmgjfjjaaGreat
open Go.RowKit

theorem wanted_un {l : List Oper} {a : Act} {o : Oper} (j : Nat) (want : Bool) (hg : o.guard = some (j, want)) {oj : Oper} {d : Nat} (hj : l[j]? = some oj) (hd : oj.dst = some d) (hv : a.tmps[d]?.getD undef = undef) :
    ¬ Region.wanted o (yielded l.toArray a.tmps) = true := by
  cases hx : a.tmps[d]? with
  | none => cases want <;> simp [Region.wanted, hg, yielded, hj, hd, hx]
  | some u =>
    rw [hx] at hv
    simp only [Option.getD_some] at hv
    subst hv
    cases want <;> simp [Region.wanted, hg, yielded, hj, hd, hx, undef]
theorem Sl.at1v {w : World} {B n i : Nat} {A : Option Addr} {f : Nat → Value} (h : Sl w B 1 A n fun i _ => f i) (hi : i < n) : ∃ b off, A = some ⟨b, off, none⟩ ∧ b < B ∧ w.cell? ⟨b, off + i, none⟩ = some (f i) := h.at1 hi
theorem SlO.at1v [Exc] {w : World} {B n i : Nat} {A : Option Addr} {f : Nat → Value} (h : SlO w (· < B) A n fun i _ => f i) (hi : i < n) : ∃ b off, A = some ⟨b, off, none⟩ ∧ b < B ∧ w.cell? ⟨b, off + i, none⟩ = some (f i) := Sl.at1v h.sl hi
set_option maxRecDepth 100000 in
set_option maxHeartbeats 1000000 in
theorem refHolds_any [Exc] (w : World) (x : PV) (R : RX) (S : Sys) (hp : PlantAt w w.heap.size x S.p) (hr : RefAt w w.heap.size R S) (v : Nat) (o : Bool) (hv : v < S.p.valves.length) :
    Calls Tryz.prog 88 #[.agg (plantA x S.p), .agg (SysA R S), .agg #[.int .i64 v, .bool o]] w fun e w' => e = .returned (.bool (holdsB S.p S.at_ ⟨v, o⟩)) ∧ Below w.heap.size w w' := by
  obtain ⟨b1, o1, hA1, hB1, _, d1, _⟩ := hp.valves.at3 hv
  simp only [valveC] at d1
  obtain ⟨b2, o2, hA2, hB2, d2⟩ := hr.place.at1v hv
  have hvi : (v : Int) < (S.p.valves.length : Int) := by omega
  have h0i : (0 : Int) ≤ (v : Int) := by omega
  have hb : ∀ o1 o2 o3, Below w.heap.size w (((w.alloc o1).alloc o2).alloc o3) := fun o1 o2 o3 => (((Below.refl _ _).alloc (Nat.le_refl _) _).alloc (by simp) _).alloc (by simp; omega) _
  have HB := Lib.hid hb
  clear hp hr hb
  dsimp only [SysA, refA, plantA]
  rw [hA1, hA2]
  have l1 : b1 < w.heap.size + 1 + 1 := by omega
  have l2 : b2 < w.heap.size + 1 + 1 := by omega
  have l3 : b1 < w.heap.size + 1 := by omega
  have l4 : b2 < w.heap.size + 1 := by omega
  clear hA1 hA2
  cases o with
  | true =>
    have Hf := Lib.hid (show holdsB S.p S.at_ ⟨v, true⟩ = decide (0 < (S.at_ v).place) from rfl)
    go_enter Tryz.func88, Tryz.ntmps88
    go_wp2_with fail
    go_ret
    rw [Hf.out]
    exact ⟨rfl, HB.out _ _ _⟩
  | false =>
    have Hf := Lib.hid (show holdsB S.p S.at_ ⟨v, false⟩ = decide ((S.at_ v).place < (S.p.valve v).travel) from rfl)
    go_enter Tryz.func88, Tryz.ntmps88
    go_wp2_with fail
    go_quiet (fail)
    go_wp2_with fail
    go_ret
    rw [Hf.out]
    exact ⟨rfl, below_drewN (HB.out _ _ _) _⟩

set_option maxRecDepth 100000 in
set_option maxHeartbeats 2000000 in
theorem refHoldsSet_any [Exc] (w : World) (x : PV) (R : RX) (S : Sys) (hp : PlantAt w w.heap.size x S.p) (hr : RefAt w w.heap.size R S) (A : Option Addr) (n c : Nat) (l : Nat → LitD) (hl : Sl w w.heap.size 2 A n fun i => litC (l i))
    (hok : ∀ i, i < n → 0 ≤ (l i).valve ∧ (l i).valve < S.p.valves.length) :
    Calls Tryz.prog 28 #[.agg (plantA x S.p), .agg (SysA R S), .slice A n c] w fun e w' => e = .returned (.bool (allN n fun i => holdsB S.p S.at_ (l i))) ∧ Below w.heap.size w w' := by
  have hn := hl.1
  obtain ⟨W, hW⟩ : ∃ W, W = (w.alloc (.cells (plantA x S.p) 27)).alloc (.cells (SysA R S) 53) := ⟨_, rfl⟩
  have hbW : Below w.heap.size w W := by rw [hW]; exact ((Below.refl _ _).alloc (Nat.le_refl _) _).alloc (by simp) _
  have h1 : Bk W w.heap.size 27 (plantA x S.p) := by rw [hW]; exact (Bk.new _ _ _).alloc _
  have h2 : Bk W (w.heap.size + 1) 53 (SysA R S) := by rw [hW]; exact Bk.newAt _ _ _ _ (by simp)
  have hWs : W.heap.size = w.heap.size + 2 := by rw [hW]; simp
  have HX := Lib.hid (⟨hp.below hbW, hr.below hbW, Sl.below hl hbW, h1, h2⟩ : PlantAt W w.heap.size x S.p ∧ RefAt W w.heap.size R S ∧ Sl W w.heap.size 2 A n (fun i => litC (l i)) ∧ Bk W w.heap.size 27 (plantA x S.p) ∧ Bk W (w.heap.size + 1) 53 (SysA R S))
  have HW := Lib.hid hW
  have HB := Lib.hid hbW
  have HZ := Lib.hid hWs
  have HOK := Lib.hid hok
  clear hp hr hl hW hbW h1 h2 hWs hok
  go_enter Tryz.func28, Tryz.ntmps28
  go_wp2_with fail
  rw [← HW.out]
  go_loopw [7] (fun i wr => ∃ k : Nat, k ≤ n ∧ i = .int .i64 k ∧ Hid (∀ j, j < k → holdsB S.p S.at_ (l j) = true) ∧ Hid (Below W.heap.size W wr)) (fun i _ => n - (intOf i).toNat)
  case atStart => exact ⟨0, Nat.zero_le _, rfl, Lib.hid fun j hj => absurd hj (by omega), Lib.hid (Below.refl _ _)⟩
  case round =>
    obtain ⟨k, hk, rfl, hall, hb⟩ := hrel
    by_cases hlt : k < n
    · obtain ⟨q1, q2, q3, q4, q5⟩ := HX.out
      have hsz := hb.out.size
      have hWs := HZ.out
      obtain ⟨g1, g2⟩ := HOK.out k hlt
      have hltk := (q3.below (hb.out.mono (show w.heap.size ≤ W.heap.size by omega))).at2 hlt
      obtain ⟨v, hv⟩ := Int.eq_ofNat_of_zero_le g1
      have hlk : l k = ⟨v, (l k).opn⟩ := by rw [← hv]
      obtain ⟨o, ho⟩ : ∃ o, o = (l k).opn := ⟨_, rfl⟩
      rw [← ho] at hlk
      obtain ⟨b, off, hA, hB, e0, e1⟩ := hltk
      rw [hlk] at e0 e1
      simp only [litC] at e0 e1
      have hpl := fun w1 (hw1 : Below wr.heap.size wr w1) => (q1.below (hb.out.mono (show w.heap.size ≤ W.heap.size by omega))).below (hw1.mono (show w.heap.size ≤ wr.heap.size by omega))
      have hrf := fun w1 (hw1 : Below wr.heap.size wr w1) => (q2.below (hb.out.mono (show w.heap.size ≤ W.heap.size by omega))).below (hw1.mono (show w.heap.size ≤ wr.heap.size by omega))
      have HH := Lib.hid fun (w1 : World) (hw1 : Below wr.heap.size wr w1) => refHolds_any w1 x R S ((hpl w1 hw1).mono (by have := hw1.size; omega)) ((hrf w1 hw1).mono (by have := hw1.size; omega)) v o (by rw [hv] at g2; omega)
      have HPl : Hid (∀ w1, Below wr.heap.size wr w1 → ∀ j u, (plantA x S.p)[j]? = some u → w1.cell? ⟨w.heap.size, 0 + j, none⟩ = some u) := Lib.hid fun w1 hw1 j u hj => by rw [Nat.zero_add]; exact (((q4.below hb.out q4.lt).below hw1 (by have := q4.lt; omega)).cell j).trans hj
      have HRf : Hid (∀ w1, Below wr.heap.size wr w1 → ∀ j u, (SysA R S)[j]? = some u → w1.cell? ⟨w.heap.size + 1, 0 + j, none⟩ = some u) := Lib.hid fun w1 hw1 j u hj => by rw [Nat.zero_add]; exact (((q5.below hb.out q5.lt).below hw1 (by have := q5.lt; omega)).cell j).trans hj
      have HLt : Hid (∀ w1, Below wr.heap.size wr w1 → ∀ j u, (#[.int .i64 v, .bool o] : Array Value)[j]? = some u → w1.cell? ⟨b, off + k * 2 + j, none⟩ = some u) := Lib.hid fun w1 hw1 j u hj => by
        rw [hw1.cell (p := ⟨b, off + k * 2 + j, none⟩) (by show b < wr.heap.size; omega)]
        match j, hj with
        | 0, hj => simp at hj; subst hj; exact e0
        | 1, hj => simp at hj; subst hj; exact e1
      have HLK := Lib.hid hlk
      have hki : (k : Int) < (n : Int) := by omega
      have h0i : (0 : Int) ≤ (k : Int) := by omega
      subst hA
      clear q1 q2 q3 q4 q5 g1 g2 hv ho e0 e1 hpl hrf hlk hB hsz hWs
      go_wp2_with fail
      refine wp_region_steps (by kernel_rfl) (by kernel_rfl) (fun w1 => Below wr.heap.size wr w1) (fun _ _ _ => True)
        (fun ix u _ _ => match ix with
          | 0 => u = .agg (plantA x S.p)
          | 1 => u = .agg (SysA R S)
          | 2 => u = .slice (some ⟨b, off, none⟩) n c
          | 3 => u = .int .i64 k
          | 4 => u = .pointer (some ⟨b, off + k * 2, none⟩)
          | 5 => u = .agg #[.int .i64 v, .bool o]
          | 6 => u = .bool (holdsB S.p S.at_ ⟨v, o⟩)
          | _ => u = .bool (!(holdsB S.p S.at_ ⟨v, o⟩))) (Below.refl _ _).drew (fun _ _ _ _ _ _ _ _ h _ _ => h) ?_ ?_
      · refine ⟨?_, ?_, ?_, ?_, ?_, ?_, ?_, ?_, trivial⟩
        · intro a w1 vs K HJ HK HD HN kk
          have e3 := HK 3 (by decide)
          exact wpo_loadS 27 (.tmp 3) rfl w.heap.size 0 (by simpa [Act.eval] using e3) (plantA x S.p) _ (HPl.out w1 HJ) und_plant rfl info_plant (kk _ _ (by simp) HJ trivial rfl)
        · intro a w1 vs K HJ HK HD HN kk
          have e4 := HK 4 (by decide)
          exact wpo_loadS 53 (.tmp 4) rfl (w.heap.size + 1) 0 (by simpa [Act.eval] using e4) (SysA R S) _ (HRf.out w1 HJ) und_state rfl info_state (kk _ _ (by simp) HJ trivial rfl)
        · intro a w1 vs K HJ HK HD HN kk
          have e2 := HK 2 (by decide)
          go_simp; exact kk _ _ (by simp) HJ trivial rfl
        · intro a w1 vs K HJ HK HD HN kk
          have e7 := HK 7 (by decide)
          go_simp; exact kk _ _ (by simp) HJ trivial rfl
        · intro a w1 vs K HJ HK HD HN kk
          have e16 := (HD 2 _ 16 rfl rfl rfl).1.trans (HD 2 _ 16 rfl rfl rfl).2
          have e17 := (HD 3 _ 17 rfl rfl rfl).1.trans (HD 3 _ 17 rfl rfl rfl).2
          go_simp; exact kk _ _ (by simp) HJ trivial rfl
        · intro a w1 vs K HJ HK HD HN kk
          have e18 := (HD 4 _ 18 rfl rfl rfl).1.trans (HD 4 _ 18 rfl rfl rfl).2
          exact wpo_loadS 79 (.tmp 18) rfl b (off + k * 2) (by simpa [Act.eval] using e18) #[.int .i64 v, .bool o] _ (HLt.out w1 HJ) und_lit rfl info_lit (kk _ _ (by simp) HJ trivial rfl)
        · intro a w1 vs K HJ HK HD HN kk
          have e14 := (HD 0 _ 14 rfl rfl rfl).1.trans (HD 0 _ 14 rfl rfl rfl).2
          have e15 := (HD 1 _ 15 rfl rfl rfl).1.trans (HD 1 _ 15 rfl rfl rfl).2
          have e19 := (HD 5 _ 19 rfl rfl rfl).1.trans (HD 5 _ 19 rfl rfl rfl).2
          exact wpo_call 88 _ _ rfl #[.agg (plantA x S.p), .agg (SysA R S), .agg #[.int .i64 v, .bool o]] (by simp [Act.eval, e14, e15, e19]) (fun args w => by kernel_rfl)
            ((HH.out w1 HJ).mono fun e w' ⟨he, hb⟩ => ⟨_, he, kk _ _ (by simp) (Below.trans HJ (hb.mono HJ.size)) trivial rfl⟩)
        · intro a w1 vs K HJ HK HD HN kk
          have e20 := (HD 6 _ 20 rfl rfl rfl).1.trans (HD 6 _ 20 rfl rfl rfl).2
          go_simp; exact kk _ _ (by simp) HJ trivial rfl
      intro vs w2 hw2 hrr
      have h7 : vs 7 = _ := hrr 7 _ rfl
      have HB2 := Lib.hid (hb.out.trans (hw2.mono hb.out.size))
      clear hrr HH HPl HRf HLt hw2
      simp only [putAll, Act.put, h7]
      cases hq : holdsB S.p S.at_ ⟨v, o⟩ with
      | true =>
        have HQ := Lib.hid hq; clear hq
        go_simp
        go_wp2_with fail
        go_roundw
        case rel => exact ⟨k + 1, by omega, by go_num, Lib.hid fun j hj => if e : j = k then by subst e; rw [HLK.out]; exact HQ.out else hall.out j (by omega), HB2⟩
        case measure => simp [intOf]; omega
      | false =>
        have Hf : Hid ((allN n fun i => holdsB S.p S.at_ (l i)) = false) := Lib.hid (by unfold allN; rw [List.all_eq_false]; exact ⟨k, by simpa using hlt, by rw [HLK.out, hq]; simp⟩)
        clear hq
        go_simp
        go_wp2_with fail
        go_ret
        rw [Hf.out]
        exact ⟨rfl, HB.out.trans (HB2.out.mono (by rw [HZ.out]; omega))⟩
    · obtain rfl : k = n := by omega
      have Hf : Hid ((allN k fun i => holdsB S.p S.at_ (l i)) = true) := Lib.hid (allN_iff.2 hall.out)
      go_wp2_with fail
      go_ret
      rw [Hf.out]
      exact ⟨rfl, HB.out.trans (hb.out.mono (by rw [HZ.out]; omega))⟩
set_option maxRecDepth 100000 in
set_option maxHeartbeats 2000000 in
theorem refLits_any (w : World) (x : PV) (p : PlantD) (hp : PlantAt w w.heap.size x p) (A : Option Addr) (n c : Nat) (l : Nat → LitD) (hl : Sl w w.heap.size 2 A n fun i => litC (l i)) (most : Int) :
    Calls Tryz.prog 27 #[.agg (plantA x p), .slice A n c, .int .i64 most] w fun e w' => e = .returned (.bool (inB n 1 most && allN n fun i => inB (l i).valve 0 (p.valves.length - 1))) ∧ Below w.heap.size w w' := by
  have hn := hl.1
  have hnv := hp.valves.1
  obtain ⟨W, hW⟩ : ∃ W, W = w.alloc (.cells (plantA x p) 27) := ⟨_, rfl⟩
  have hbW : Below w.heap.size w W := by rw [hW]; exact (Below.refl _ _).alloc (Nat.le_refl _) _
  have h1 : Bk W w.heap.size 27 (plantA x p) := by rw [hW]; exact Bk.new _ _ _
  have hWs : W.heap.size = w.heap.size + 1 := by rw [hW]; simp
  obtain ⟨nv, hnvv⟩ : ∃ nv, nv = p.valves.length := ⟨_, rfl⟩
  have HX := Lib.hid (⟨Sl.below hl hbW, h1⟩ : Sl W w.heap.size 2 A n (fun i => litC (l i)) ∧ Bk W w.heap.size 27 (plantA x p))
  rw [← hnvv] at hnv
  have HNV := Lib.hid hnvv
  have hwr : IntKind.i64.wrap ((nv : Int) - 1) = (nv : Int) - 1 := IntWalk.i64_in _ (by omega)
  have HW := Lib.hid hW
  have HB := Lib.hid hbW
  have HZZ := Lib.hid hWs
  rw [← hnvv]
  clear hp hl hW hbW h1 hWs hnvv
  go_enter Tryz.func27, Tryz.ntmps27
  go_wp2_with fail
  rw [← HW.out]
  go_loopw [7] (fun i wr => ∃ k : Nat, k ≤ n ∧ i = .int .i64 k ∧ Hid (∀ j, j < k → inB (l j).valve 0 ((nv : Int) - 1) = true) ∧ Hid (Below W.heap.size W wr)) (fun i _ => n - (intOf i).toNat)
  case atStart => exact ⟨0, Nat.zero_le _, rfl, Lib.hid fun j hj => absurd hj (by omega), Lib.hid (Below.refl _ _)⟩
  case round =>
    obtain ⟨k, hk, rfl, hall, hb⟩ := hrel
    by_cases hlt : k < n
    · obtain ⟨q3, q4⟩ := HX.out
      have hsz := hb.out.size
      have hWs := HZZ.out
      obtain ⟨b, off, hA, hB, e0, e1⟩ := (q3.below (hb.out.mono (show w.heap.size ≤ W.heap.size by omega))).at2 hlt
      obtain ⟨z, hz⟩ : ∃ z, z = (l k).valve := ⟨_, rfl⟩
      simp only [litC] at e0
      rw [← hz] at e0
      have HZ : Hid (∀ w1, Below wr.heap.size wr w1 → w1.cell? ⟨b, off + k * 2, none⟩ = some (.int .i64 z)) := Lib.hid fun w1 hw1 => (hw1.cell (p := ⟨b, off + k * 2, none⟩) (by show b < wr.heap.size; omega)).trans e0
      have HV : Hid (∀ w1, Below wr.heap.size wr w1 → w1.cell? ⟨w.heap.size, 1, none⟩ = some (.slice x.vA nv x.vc)) := Lib.hid fun w1 hw1 => by rw [HNV.out]; exact ((q4.below hb.out q4.lt).below hw1 (by have := q4.lt; omega)).cell 1
      have HLK := Lib.hid hz
      have hki : (k : Int) < (n : Int) := by omega
      have h0i : (0 : Int) ≤ (k : Int) := by omega
      subst hA
      clear q3 q4 e0 e1 hz hB hsz hWs
      go_wp2_with fail
      refine wp_region_steps (by kernel_rfl) (by kernel_rfl) (fun w1 => Below wr.heap.size wr w1) (fun _ _ _ => True)
        (fun ix u _ _ => match ix with
          | 0 => u = .slice (some ⟨b, off, none⟩) n c
          | 1 => u = .int .i64 k
          | 2 => u = .pointer (some ⟨b, off + k * 2, none⟩)
          | 3 => u = .pointer (some ⟨b, off + k * 2, none⟩)
          | 4 => u = .int .i64 z
          | 5 => u = .pointer (some ⟨w.heap.size, 1, none⟩)
          | 6 => u = .slice x.vA nv x.vc
          | 7 => u = .int .i64 nv
          | 8 => u = .int .i64 ((nv : Int) - 1)
          | 9 => u = .bool (inB z 0 ((nv : Int) - 1))
          | _ => u = .bool (!(inB z 0 ((nv : Int) - 1)))) (Below.refl _ _).drew (fun _ _ _ _ _ _ _ _ h _ _ => h) ?_ ?_
      · refine ⟨?_, ?_, ?_, ?_, ?_, ?_, ?_, ?_, ?_, ?_, ?_, trivial⟩
        · intro a w1 vs K HJ HK HD HN kk
          have e1 := HK 1 (by decide)
          go_simp; exact kk _ _ (by simp) HJ trivial rfl
        · intro a w1 vs K HJ HK HD HN kk
          have e7 := HK 7 (by decide)
          go_simp; exact kk _ _ (by simp) HJ trivial rfl
        · intro a w1 vs K HJ HK HD HN kk
          have e14 := (HD 0 _ 14 rfl rfl rfl).1.trans (HD 0 _ 14 rfl rfl rfl).2
          have e15 := (HD 1 _ 15 rfl rfl rfl).1.trans (HD 1 _ 15 rfl rfl rfl).2
          go_simp; exact kk _ _ (by simp) HJ trivial rfl
        · intro a w1 vs K HJ HK HD HN kk
          have e16 := (HD 2 _ 16 rfl rfl rfl).1.trans (HD 2 _ 16 rfl rfl rfl).2
          go_simp; exact kk _ _ (by simp) HJ trivial rfl
        · intro a w1 vs K HJ HK HD HN kk
          have e17 := (HD 3 _ 17 rfl rfl rfl).1.trans (HD 3 _ 17 rfl rfl rfl).2
          have c := HZ.out w1 HJ
          go_simp; exact kk _ _ (by simp) HJ trivial rfl
        · intro a w1 vs K HJ HK HD HN kk
          have e3 := HK 3 (by decide)
          go_simp; exact kk _ _ (by simp) HJ trivial rfl
        · intro a w1 vs K HJ HK HD HN kk
          have e19 := (HD 5 _ 19 rfl rfl rfl).1.trans (HD 5 _ 19 rfl rfl rfl).2
          have c := HV.out w1 HJ
          go_simp; exact kk _ _ (by simp) HJ trivial rfl
        · intro a w1 vs K HJ HK HD HN kk
          have e20 := (HD 6 _ 20 rfl rfl rfl).1.trans (HD 6 _ 20 rfl rfl rfl).2
          go_simp; exact kk _ _ (by simp) HJ trivial rfl
        · intro a w1 vs K HJ HK HD HN kk
          have e21 := (HD 7 _ 21 rfl rfl rfl).1.trans (HD 7 _ 21 rfl rfl rfl).2
          have c := hwr
          go_simp; exact kk _ _ (by simp) HJ trivial rfl
        · intro a w1 vs K HJ HK HD HN kk
          have e18 := (HD 4 _ 18 rfl rfl rfl).1.trans (HD 4 _ 18 rfl rfl rfl).2
          have e22 := (HD 8 _ 22 rfl rfl rfl).1.trans (HD 8 _ 22 rfl rfl rfl).2
          exact wpo_call 76 _ _ rfl #[.int .i64 z, .int .i64 0, .int .i64 ((nv : Int) - 1)] (by simp [Act.eval, e18, e22]) (fun args w => by kernel_rfl)
            (((in_any z 0 ((nv : Int) - 1) w1).mono fun e w' ⟨h1, h2⟩ => (⟨h1, by rw [← h2]; exact Below.refl _ _⟩ : _ ∧ Below w1.heap.size w1 w')).mono fun e w' ⟨he, hb⟩ => ⟨_, he, kk _ _ (by simp) (Below.trans HJ (hb.mono HJ.size)) trivial rfl⟩)
        · intro a w1 vs K HJ HK HD HN kk
          have e23 := (HD 9 _ 23 rfl rfl rfl).1.trans (HD 9 _ 23 rfl rfl rfl).2
          go_simp; exact kk _ _ (by simp) HJ trivial rfl
      intro vs w2 hw2 hrr
      have h10 : vs 10 = _ := hrr 10 _ rfl
      have HB2 := Lib.hid (hb.out.trans (hw2.mono hb.out.size))
      clear hrr HZ HV hw2
      simp only [putAll, Act.put, h10]
      cases hq : inB z 0 ((nv : Int) - 1) with
      | true =>
        have HQ := Lib.hid hq; clear hq
        go_simp
        go_wp2_with fail
        go_roundw
        case rel => exact ⟨k + 1, by omega, by go_num, Lib.hid fun j hj => if e : j = k then by subst e; rw [← HLK.out]; exact HQ.out else hall.out j (by omega), HB2⟩
        case measure => simp [intOf]; omega
      | false =>
        have Hf : Hid ((inB n 1 most && allN n fun i => inB (l i).valve 0 ((nv : Int) - 1)) = false) := Lib.hid (by
          have : (allN n fun i => inB (l i).valve 0 ((nv : Int) - 1)) = false := by unfold allN; rw [List.all_eq_false]; exact ⟨k, by simpa using hlt, by rw [← HLK.out, hq]; simp⟩
          rw [this, Bool.and_false])
        clear hq
        go_simp
        go_wp2_with fail
        go_ret
        rw [Hf.out]
        exact ⟨rfl, HB.out.trans (HB2.out.mono (by rw [HZZ.out]; omega))⟩
    · obtain rfl : k = n := by omega
      have Hf : Hid ((allN k fun i => inB (l i).valve 0 ((nv : Int) - 1)) = true) := Lib.hid (allN_iff.2 hall.out)
      go_wp2_with fail
      refine (in_any _ _ _ _).mono ?_
      rintro e w' ⟨rfl, rfl⟩
      go_wp2_with fail
      go_ret
      rw [Hf.out, Bool.and_true]
      exact ⟨rfl, HB.out.trans (hb.out.mono (by rw [HZZ.out]; omega))⟩

theorem allN_succ (k : Nat) (q : Nat → Bool) : allN (k + 1) q = (allN k q && q k) := by
  unfold allN; rw [List.range_succ, List.all_append]; simp
set_option maxRecDepth 100000 in
set_option maxHeartbeats 4000000 in
theorem refSafe_any [Exc] (w : World) (x : PV) (R : RX) (S : Sys) (hp : PlantAt w w.heap.size x S.p) (hr : RefAt w w.heap.size R S) (hN : NeverOk S.p) :
    Calls Tryz.prog 61 #[.agg (plantA x S.p), .agg (SysA R S)] w fun e w' => e = .returned (.bool (safeB S.p S.at_)) ∧ Below w.heap.size w w' := by
  obtain ⟨W, hW⟩ : ∃ W, W = (w.alloc (.cells (plantA x S.p) 27)).alloc (.cells (SysA R S) 53) := ⟨_, rfl⟩
  have hbW : Below w.heap.size w W := by rw [hW]; exact ((Below.refl _ _).alloc (Nat.le_refl _) _).alloc (by simp) _
  have h1 : Bk W w.heap.size 27 (plantA x S.p) := by rw [hW]; exact (Bk.new _ _ _).alloc _
  have h2 : Bk W (w.heap.size + 1) 53 (SysA R S) := by rw [hW]; exact Bk.newAt _ _ _ _ (by simp)
  have hWs : W.heap.size = w.heap.size + 2 := by rw [hW]; simp
  have HX := Lib.hid (⟨hp.below hbW, hr.below hbW, h1, h2⟩ : PlantAt W w.heap.size x S.p ∧ RefAt W w.heap.size R S ∧ Bk W w.heap.size 27 (plantA x S.p) ∧ Bk W (w.heap.size + 1) 53 (SysA R S))
  have hnn := hp.never.1
  have hnvv := hp.valves.1
  obtain ⟨nn, hnn'⟩ : ∃ nn, nn = S.p.never.length := ⟨_, rfl⟩
  rw [← hnn'] at hnn
  have HNN := Lib.hid hnn'
  have HW := Lib.hid hW
  have HB := Lib.hid hbW
  have HZ := Lib.hid hWs
  have HOK := Lib.hid hN
  have HS : Hid (safeB S.p S.at_ = allN nn fun i => !(allN (S.p.nev i).length fun k => mayB S.p S.at_ ((S.p.nev i).getD k lit0))) := Lib.hid (by rw [hnn']; rfl)
  have hc3 : ∀ w1, Below W.heap.size W w1 → w1.cell? ⟨w.heap.size, 3, none⟩ = some (.slice x.nA nn x.nc) := fun w1 hw1 => by rw [hnn']; exact (h1.below hw1 h1.lt).cell 3
  have HC3 := Lib.hid hc3
  clear hp hr hW hbW h1 h2 hWs hN hnn' hc3
  go_enter Tryz.func61, Tryz.ntmps61
  go_wp2_with fail
  rw [← HW.out]
  go_loopw [5] (fun i wr => ∃ k : Nat, k ≤ nn ∧ i = .int .i64 k ∧ Hid (∀ j, j < k → (allN (S.p.nev j).length fun k => mayB S.p S.at_ ((S.p.nev j).getD k lit0)) = false) ∧ Hid (Below W.heap.size W wr)) (fun i _ => nn - (intOf i).toNat)
  case atStart => exact ⟨0, Nat.zero_le _, rfl, Lib.hid fun j hj => absurd hj (by omega), Lib.hid (Below.refl _ _)⟩
  case round =>
    obtain ⟨i, hi, rfl, hall, hb⟩ := hrel
    obtain ⟨wo, rfl⟩ : ∃ wo : World, wo = wr := ⟨_, rfl⟩
    have c3 := HC3.out wo hb.out
    by_cases hlt : i < nn
    · obtain ⟨q1, _, _, _⟩ := HX.out
      have hsz := hb.out.size
      have hWs := HZ.out
      obtain ⟨bn, on, hA, hBn, e0⟩ := q1.never.at1 (show i < S.p.never.length by rw [← HNN.out]; exact hlt)
      obtain ⟨ni, hni⟩ : ∃ ni, ni = (S.p.nev i).length := ⟨_, rfl⟩
      have hnl := (q1.nv i (by rw [← HNN.out]; exact hlt)).1
      rw [← hni] at e0 hnl
      have HNI := Lib.hid hni
      rw [hA] at c3
      have HA := Lib.hid hA
      have HE : Hid (∀ w1, Below W.heap.size W w1 → w1.cell? ⟨bn, on + i, none⟩ = some (.slice (x.jA i) ni (x.jc i))) := Lib.hid fun w1 hw1 => (hw1.cell (p := ⟨bn, on + i, none⟩) (by show bn < W.heap.size; omega)).trans (by simpa using e0)
      have hin : (i : Int) < (nn : Int) := by omega
      have h0i : (0 : Int) ≤ (i : Int) := by omega
      clear q1 hA hBn e0 hni hsz hWs
      go_wp2_with fail
      go_loopw [6, 7] (fun m j wr => ∃ (k : Nat) (mb : Bool), k ≤ ni ∧ j = .int .i64 k ∧ m = .bool mb ∧ Hid (mb = allN k fun k => mayB S.p S.at_ ((S.p.nev i).getD k lit0)) ∧ Hid (Below W.heap.size W wr)) (fun _ j _ => ni - (intOf j).toNat)
      case atStart => exact ⟨0, true, Nat.zero_le _, rfl, rfl, Lib.hid rfl, hb⟩
      case round =>
        obtain ⟨k, mb, hk, rfl, rfl, hmb, hb2⟩ := hrel
        clear c3
        have c3 := HC3.out wr hb2.out
        rw [HA.out] at c3
        have ce := HE.out wr hb2.out
        by_cases hlk : k < ni
        · obtain ⟨q1, q2, q4, q5⟩ := HX.out
          have hsz := hb2.out.size
          have hWs := HZ.out
          obtain ⟨g1, g2⟩ := HOK.out i (by rw [← HNN.out]; exact hlt) k (by rw [← HNI.out]; exact hlk)
          obtain ⟨v, hv⟩ := Int.eq_ofNat_of_zero_le g1
          obtain ⟨o, ho⟩ : ∃ o, o = ((S.p.nev i).getD k lit0).opn := ⟨_, rfl⟩
          have hlkk : (S.p.nev i).getD k lit0 = ⟨v, o⟩ := by rw [← hv, ho]
          have hvn : v < S.p.valves.length := by rw [hv] at g2; omega
          obtain ⟨b, off, hAj, hBj, e0, e1⟩ := ((q1.nv i (by rw [← HNN.out]; exact hlt)).below (hb2.out.mono (show w.heap.size ≤ W.heap.size by omega))).at2 (show k < (S.p.nev i).length by rw [← HNI.out]; exact hlk)
          rw [hlkk] at e0 e1
          simp only [litC] at e0 e1
          obtain ⟨bw, ow, hA3, hB3, e3⟩ := (q2.want.below (hb2.out.mono (show w.heap.size ≤ W.heap.size by omega))).at1v hvn
          rw [hAj] at ce
          have HLK := Lib.hid hlkk
          have hki : (k : Int) < (ni : Int) := by omega
          have h0k : (0 : Int) ≤ (k : Int) := by omega
          have hvi : (v : Int) < (S.p.valves.length : Int) := by omega
          have h0v : (0 : Int) ≤ (v : Int) := by omega
          obtain ⟨W2, hW2⟩ : ∃ W2, W2 = wr.alloc (.cells #[.int .i64 v, .bool o] 79) := ⟨_, rfl⟩
          have hb3 : Below wr.heap.size wr W2 := by rw [hW2]; exact (Below.refl _ _).alloc (Nat.le_refl _) _
          have hb4 : Below W.heap.size W W2 := hb2.out.trans (hb3.mono hb2.out.size)
          have hw2s : W2.heap.size = wr.heap.size + 1 := by rw [hW2]; simp
          have hlb : Bk W2 wr.heap.size 79 #[.int .i64 v, .bool o] := by rw [hW2]; exact Bk.new _ _ _
          have hall2 : ∀ w1, Below W2.heap.size W2 w1 → Below W.heap.size W w1 := fun w1 hw1 => hb4.trans (hw1.mono hb4.size)
          have hwW : ∀ w1, Below W2.heap.size W2 w1 → Below w.heap.size W w1 := fun w1 hw1 => (hall2 w1 hw1).mono (by omega)
          have HH := Lib.hid fun (w1 : World) (hw1 : Below W2.heap.size W2 w1) => refHolds_any w1 x R S ((q1.below (hwW w1 hw1)).mono (by have := (hall2 w1 hw1).size; omega)) ((q2.below (hwW w1 hw1)).mono (by have := (hall2 w1 hw1).size; omega)) v o hvn
          have HPl : Hid (∀ w1, Below W2.heap.size W2 w1 → ∀ j u, (plantA x S.p)[j]? = some u → w1.cell? ⟨w.heap.size, 0 + j, none⟩ = some u) := Lib.hid fun w1 hw1 j u hj => by rw [Nat.zero_add]; exact ((q4.below (hall2 w1 hw1) q4.lt).cell j).trans hj
          have HRf : Hid (∀ w1, Below W2.heap.size W2 w1 → ∀ j u, (SysA R S)[j]? = some u → w1.cell? ⟨w.heap.size + 1, 0 + j, none⟩ = some u) := Lib.hid fun w1 hw1 j u hj => by rw [Nat.zero_add]; exact ((q5.below (hall2 w1 hw1) q5.lt).cell j).trans hj
          have HLt : Hid (∀ w1, Below W2.heap.size W2 w1 → ∀ j u, (#[.int .i64 v, .bool o] : Array Value)[j]? = some u → w1.cell? ⟨wr.heap.size, 0 + j, none⟩ = some u) := Lib.hid fun w1 hw1 j u hj => by rw [Nat.zero_add]; exact ((hlb.below hw1 hlb.lt).cell j).trans hj
          have HL0 : Hid (∀ w1, Below W2.heap.size W2 w1 → w1.cell? ⟨wr.heap.size, 0, none⟩ = some (.int .i64 v)) := Lib.hid fun w1 hw1 => (hlb.below hw1 hlb.lt).cell 0
          have HL1 : Hid (∀ w1, Below W2.heap.size W2 w1 → w1.cell? ⟨wr.heap.size, 1, none⟩ = some (.bool o)) := Lib.hid fun w1 hw1 => (hlb.below hw1 hlb.lt).cell 1
          have HW3 : Hid (∀ w1, Below W2.heap.size W2 w1 → w1.cell? ⟨w.heap.size + 1, 3, none⟩ = some (.slice (R.a 3) S.p.valves.length (R.c 3))) := Lib.hid fun w1 hw1 => (q5.below (hall2 w1 hw1) q5.lt).cell 3
          have HWv : Hid (∀ w1, Below W2.heap.size W2 w1 → w1.cell? ⟨bw, ow + v, none⟩ = some (.bool (S.at_ v).opn)) := Lib.hid fun w1 hw1 => ((hwW w1 hw1).cell (p := ⟨bw, ow + v, none⟩) (by show bw < w.heap.size; omega)).trans (((hb2.out.mono (show w.heap.size ≤ W.heap.size by omega)).cell (p := ⟨bw, ow + v, none⟩) (by show bw < w.heap.size; omega)).symm.trans e3)
          have HA3 := Lib.hid hA3
          have HB4 := Lib.hid hall2
          have HW2 := Lib.hid hW2
          clear q1 q2 q4 q5 g1 g2 hv ho hlkk hA3 hB3 e3 hb3 hb4 hw2s hlb hall2 hwW hW2 hAj hsz hWs
          go_wp2_with fail
          rw [← HW2.out]
          cases mb with
          | false =>
            have HM : Hid (false = allN (k + 1) fun k => mayB S.p S.at_ ((S.p.nev i).getD k lit0)) := Lib.hid (by rw [allN_succ, ← hmb.out]; rfl)
            refine wp_region_steps (by kernel_rfl) (by kernel_rfl) (fun w1 => Below W2.heap.size W2 w1) (fun _ _ _ => True)
              (fun ix u _ _ => match ix with
                | 0 => u = .bool false
                | 1 => u = .bool false
                | 2 => u = undef
                | 3 => u = undef
                | 4 => u = undef
                | 5 => u = undef
                | 6 => u = undef
                | 7 => u = undef
                | 8 => u = undef
                | 9 => u = undef
                | 10 => u = undef
                | 11 => u = undef
                | 12 => u = undef
                | 13 => u = undef
                | 14 => u = undef
                | 15 => u = undef
                | 16 => u = undef
                | 17 => u = .bool false
                | _ => u = .bool false) (Below.refl _ _).drew (fun _ _ _ _ _ _ _ _ h _ _ => h) ?_ ?_
            · refine ⟨?_, ?_, ?_, ?_, ?_, ?_, ?_, ?_, ?_, ?_, ?_, ?_, ?_, ?_, ?_, ?_, ?_, ?_, ?_, trivial⟩
              · intro a w1 vs K HJ HK HD HN kk
                have e6 := HK 6 (by decide)
                go_simp; exact kk _ _ (by simp) HJ trivial rfl
              · intro a w1 vs K HJ HK HD HN kk
                have e34 := (HD 0 _ 34 rfl rfl rfl).1.trans (HD 0 _ 34 rfl rfl rfl).2
                go_simp; exact kk _ _ (by simp) HJ trivial rfl
              · intro a w1 vs K HJ HK HD HN kk
                have e35 := (HD 1 _ 35 rfl rfl rfl).1.trans (HD 1 _ 35 rfl rfl rfl).2
                rw [if_neg (wanted_no 1 true rfl rfl rfl e35)]
                exact kk undef _ (by simp) HJ trivial rfl
              · intro a w1 vs K HJ HK HD HN kk
                have e35 := (HD 1 _ 35 rfl rfl rfl).1.trans (HD 1 _ 35 rfl rfl rfl).2
                rw [if_neg (wanted_no 1 true rfl rfl rfl e35)]
                exact kk undef _ (by simp) HJ trivial rfl
              · intro a w1 vs K HJ HK HD HN kk
                have e35 := (HD 1 _ 35 rfl rfl rfl).1.trans (HD 1 _ 35 rfl rfl rfl).2
                rw [if_neg (wanted_no 1 true rfl rfl rfl e35)]
                exact kk undef _ (by simp) HJ trivial rfl
              · intro a w1 vs K HJ HK HD HN kk
                have e35 := (HD 1 _ 35 rfl rfl rfl).1.trans (HD 1 _ 35 rfl rfl rfl).2
                rw [if_neg (wanted_no 1 true rfl rfl rfl e35)]
                exact kk undef _ (by simp) HJ trivial rfl
              · intro a w1 vs K HJ HK HD HN kk
                have e35 := (HD 1 _ 35 rfl rfl rfl).1.trans (HD 1 _ 35 rfl rfl rfl).2
                rw [if_neg (wanted_no 1 true rfl rfl rfl e35)]
                exact kk undef _ (by simp) HJ trivial rfl
              · intro a w1 vs K HJ HK HD HN kk
                have e40 := (HD 6 _ 40 rfl rfl rfl).1.trans (HD 6 _ 40 rfl rfl rfl).2
                rw [if_neg (wanted_un 6 false rfl rfl rfl e40)]
                exact kk undef _ (by simp) HJ trivial rfl
              · intro a w1 vs K HJ HK HD HN kk
                have e40 := (HD 6 _ 40 rfl rfl rfl).1.trans (HD 6 _ 40 rfl rfl rfl).2
                rw [if_neg (wanted_un 6 false rfl rfl rfl e40)]
                exact kk undef _ (by simp) HJ trivial rfl
              · intro a w1 vs K HJ HK HD HN kk
                have e40 := (HD 6 _ 40 rfl rfl rfl).1.trans (HD 6 _ 40 rfl rfl rfl).2
                rw [if_neg (wanted_un 6 false rfl rfl rfl e40)]
                exact kk undef _ (by simp) HJ trivial rfl
              · intro a w1 vs K HJ HK HD HN kk
                have e40 := (HD 6 _ 40 rfl rfl rfl).1.trans (HD 6 _ 40 rfl rfl rfl).2
                rw [if_neg (wanted_un 6 false rfl rfl rfl e40)]
                exact kk undef _ (by simp) HJ trivial rfl
              · intro a w1 vs K HJ HK HD HN kk
                have e40 := (HD 6 _ 40 rfl rfl rfl).1.trans (HD 6 _ 40 rfl rfl rfl).2
                rw [if_neg (wanted_un 6 false rfl rfl rfl e40)]
                exact kk undef _ (by simp) HJ trivial rfl
              · intro a w1 vs K HJ HK HD HN kk
                have e40 := (HD 6 _ 40 rfl rfl rfl).1.trans (HD 6 _ 40 rfl rfl rfl).2
                rw [if_neg (wanted_un 6 false rfl rfl rfl e40)]
                exact kk undef _ (by simp) HJ trivial rfl
              · intro a w1 vs K HJ HK HD HN kk
                have e40 := (HD 6 _ 40 rfl rfl rfl).1.trans (HD 6 _ 40 rfl rfl rfl).2
                rw [if_neg (wanted_un 6 false rfl rfl rfl e40)]
                exact kk undef _ (by simp) HJ trivial rfl
              · intro a w1 vs K HJ HK HD HN kk
                have e40 := (HD 6 _ 40 rfl rfl rfl).1.trans (HD 6 _ 40 rfl rfl rfl).2
                rw [if_neg (wanted_un 6 false rfl rfl rfl e40)]
                exact kk undef _ (by simp) HJ trivial rfl
              · intro a w1 vs K HJ HK HD HN kk
                have e40 := (HD 6 _ 40 rfl rfl rfl).1.trans (HD 6 _ 40 rfl rfl rfl).2
                rw [if_neg (wanted_un 6 false rfl rfl rfl e40)]
                exact kk undef _ (by simp) HJ trivial rfl
              · intro a w1 vs K HJ HK HD HN kk
                have e35 := (HD 1 _ 35 rfl rfl rfl).1.trans (HD 1 _ 35 rfl rfl rfl).2
                rw [if_neg (wanted_no 1 true rfl rfl rfl e35)]
                exact kk undef _ (by simp) HJ trivial rfl
              · intro a w1 vs K HJ HK HD HN kk
                have e35 := (HD 1 _ 35 rfl rfl rfl).1.trans (HD 1 _ 35 rfl rfl rfl).2
                have e50 := (HD 16 _ 50 rfl rfl rfl).1.trans (HD 16 _ 50 rfl rfl rfl).2
                go_simp; exact kk _ _ (by simp) HJ trivial rfl
              · intro a w1 vs K HJ HK HD HN kk
                have e51 := (HD 17 _ 51 rfl rfl rfl).1.trans (HD 17 _ 51 rfl rfl rfl).2
                go_simp; exact kk _ _ (by simp) HJ trivial rfl
            intro vs w3 hw3 hrr
            have h18 : vs 18 = _ := hrr 18 _ rfl
            have HB5 := Lib.hid (HB4.out w3 hw3)
            clear hrr HH HPl HRf HLt HL0 HL1 HW3 HWv HA3 HB4 hw3
            simp only [putAll, Act.put, h18]
            go_simp
            go_wp2_with fail
            go_roundw
            case rel => exact ⟨k + 1, _, by omega, by go_num, rfl, HM, HB5⟩
            case measure => simp [intOf]; omega
          | true =>
            cases hh : holdsB S.p S.at_ ⟨v, o⟩ with
            | true =>
              have HM : Hid (true = allN (k + 1) fun k => mayB S.p S.at_ ((S.p.nev i).getD k lit0)) := Lib.hid (by rw [allN_succ, ← hmb.out, HLK.out]; unfold mayB; rw [hh]; simp)
              rw [hh] at HH
              clear hh
              refine wp_region_steps (by kernel_rfl) (by kernel_rfl) (fun w1 => Below W2.heap.size W2 w1) (fun _ _ _ => True)
                (fun ix u _ _ => match ix with
                  | 0 => u = .bool true
                  | 1 => u = .bool true
                  | 2 => u = .agg (plantA x S.p)
                  | 3 => u = .agg (SysA R S)
                  | 4 => u = .agg #[.int .i64 v, .bool o]
                  | 5 => u = .bool true
                  | 6 => u = .bool true
                  | 7 => u = undef
                  | 8 => u = undef
                  | 9 => u = undef
                  | 10 => u = undef
                  | 11 => u = undef
                  | 12 => u = undef
                  | 13 => u = undef
                  | 14 => u = undef
                  | 15 => u = undef
                  | 16 => u = .bool true
                  | 17 => u = .bool true
                  | _ => u = .bool true) (Below.refl _ _).drew (fun _ _ _ _ _ _ _ _ h _ _ => h) ?_ ?_
              · refine ⟨?_, ?_, ?_, ?_, ?_, ?_, ?_, ?_, ?_, ?_, ?_, ?_, ?_, ?_, ?_, ?_, ?_, ?_, ?_, trivial⟩
                · intro a w1 vs K HJ HK HD HN kk
                  have e6 := HK 6 (by decide)
                  go_simp; exact kk _ _ (by simp) HJ trivial rfl
                · intro a w1 vs K HJ HK HD HN kk
                  have e34 := (HD 0 _ 34 rfl rfl rfl).1.trans (HD 0 _ 34 rfl rfl rfl).2
                  go_simp; exact kk _ _ (by simp) HJ trivial rfl
                · intro a w1 vs K HJ HK HD HN kk
                  have e35 := (HD 1 _ 35 rfl rfl rfl).1.trans (HD 1 _ 35 rfl rfl rfl).2
                  rw [if_pos (wanted_yes 1 true rfl rfl rfl e35)]
                  have e2 := HK 2 (by decide)
                  exact wpo_loadS 27 (.tmp 2) rfl w.heap.size 0 (by simpa [Act.eval] using e2) (plantA x S.p) _ (HPl.out w1 HJ) und_plant rfl info_plant (kk _ _ (by simp) HJ trivial rfl)
                · intro a w1 vs K HJ HK HD HN kk
                  have e35 := (HD 1 _ 35 rfl rfl rfl).1.trans (HD 1 _ 35 rfl rfl rfl).2
                  rw [if_pos (wanted_yes 1 true rfl rfl rfl e35)]
                  have e3 := HK 3 (by decide)
                  exact wpo_loadS 53 (.tmp 3) rfl (w.heap.size + 1) 0 (by simpa [Act.eval] using e3) (SysA R S) _ (HRf.out w1 HJ) und_state rfl info_state (kk _ _ (by simp) HJ trivial rfl)
                · intro a w1 vs K HJ HK HD HN kk
                  have e35 := (HD 1 _ 35 rfl rfl rfl).1.trans (HD 1 _ 35 rfl rfl rfl).2
                  rw [if_pos (wanted_yes 1 true rfl rfl rfl e35)]
                  have e8 := HK 8 (by decide)
                  exact wpo_loadS 79 (.tmp 8) rfl wr.heap.size 0 (by simpa [Act.eval] using e8) #[.int .i64 v, .bool o] _ (HLt.out w1 HJ) und_lit rfl info_lit (kk _ _ (by simp) HJ trivial rfl)
                · intro a w1 vs K HJ HK HD HN kk
                  have e35 := (HD 1 _ 35 rfl rfl rfl).1.trans (HD 1 _ 35 rfl rfl rfl).2
                  rw [if_pos (wanted_yes 1 true rfl rfl rfl e35)]
                  have e36 := (HD 2 _ 36 rfl rfl rfl).1.trans (HD 2 _ 36 rfl rfl rfl).2
                  have e37 := (HD 3 _ 37 rfl rfl rfl).1.trans (HD 3 _ 37 rfl rfl rfl).2
                  have e38 := (HD 4 _ 38 rfl rfl rfl).1.trans (HD 4 _ 38 rfl rfl rfl).2
                  exact wpo_call 88 _ _ rfl #[.agg (plantA x S.p), .agg (SysA R S), .agg #[.int .i64 v, .bool o]] (by simp [Act.eval, e36, e37, e38]) (fun args w => by kernel_rfl)
                    ((HH.out w1 HJ).mono fun e w' ⟨he, hb⟩ => ⟨_, he, kk _ _ (by simp) (Below.trans HJ (hb.mono HJ.size)) trivial rfl⟩)
                · intro a w1 vs K HJ HK HD HN kk
                  have e35 := (HD 1 _ 35 rfl rfl rfl).1.trans (HD 1 _ 35 rfl rfl rfl).2
                  rw [if_pos (wanted_yes 1 true rfl rfl rfl e35)]
                  have e39 := (HD 5 _ 39 rfl rfl rfl).1.trans (HD 5 _ 39 rfl rfl rfl).2
                  go_simp; exact kk _ _ (by simp) HJ trivial rfl
                · intro a w1 vs K HJ HK HD HN kk
                  have e40 := (HD 6 _ 40 rfl rfl rfl).1.trans (HD 6 _ 40 rfl rfl rfl).2
                  rw [if_neg (wanted_no 6 false rfl rfl rfl e40)]
                  exact kk undef _ (by simp) HJ trivial rfl
                · intro a w1 vs K HJ HK HD HN kk
                  have e40 := (HD 6 _ 40 rfl rfl rfl).1.trans (HD 6 _ 40 rfl rfl rfl).2
                  rw [if_neg (wanted_no 6 false rfl rfl rfl e40)]
                  exact kk undef _ (by simp) HJ trivial rfl
                · intro a w1 vs K HJ HK HD HN kk
                  have e40 := (HD 6 _ 40 rfl rfl rfl).1.trans (HD 6 _ 40 rfl rfl rfl).2
                  rw [if_neg (wanted_no 6 false rfl rfl rfl e40)]
                  exact kk undef _ (by simp) HJ trivial rfl
                · intro a w1 vs K HJ HK HD HN kk
                  have e40 := (HD 6 _ 40 rfl rfl rfl).1.trans (HD 6 _ 40 rfl rfl rfl).2
                  rw [if_neg (wanted_no 6 false rfl rfl rfl e40)]
                  exact kk undef _ (by simp) HJ trivial rfl
                · intro a w1 vs K HJ HK HD HN kk
                  have e40 := (HD 6 _ 40 rfl rfl rfl).1.trans (HD 6 _ 40 rfl rfl rfl).2
                  rw [if_neg (wanted_no 6 false rfl rfl rfl e40)]
                  exact kk undef _ (by simp) HJ trivial rfl
                · intro a w1 vs K HJ HK HD HN kk
                  have e40 := (HD 6 _ 40 rfl rfl rfl).1.trans (HD 6 _ 40 rfl rfl rfl).2
                  rw [if_neg (wanted_no 6 false rfl rfl rfl e40)]
                  exact kk undef _ (by simp) HJ trivial rfl
                · intro a w1 vs K HJ HK HD HN kk
                  have e40 := (HD 6 _ 40 rfl rfl rfl).1.trans (HD 6 _ 40 rfl rfl rfl).2
                  rw [if_neg (wanted_no 6 false rfl rfl rfl e40)]
                  exact kk undef _ (by simp) HJ trivial rfl
                · intro a w1 vs K HJ HK HD HN kk
                  have e40 := (HD 6 _ 40 rfl rfl rfl).1.trans (HD 6 _ 40 rfl rfl rfl).2
                  rw [if_neg (wanted_no 6 false rfl rfl rfl e40)]
                  exact kk undef _ (by simp) HJ trivial rfl
                · intro a w1 vs K HJ HK HD HN kk
                  have e40 := (HD 6 _ 40 rfl rfl rfl).1.trans (HD 6 _ 40 rfl rfl rfl).2
                  rw [if_neg (wanted_no 6 false rfl rfl rfl e40)]
                  exact kk undef _ (by simp) HJ trivial rfl
                · intro a w1 vs K HJ HK HD HN kk
                  have e35 := (HD 1 _ 35 rfl rfl rfl).1.trans (HD 1 _ 35 rfl rfl rfl).2
                  rw [if_pos (wanted_yes 1 true rfl rfl rfl e35)]
                  have e40 := (HD 6 _ 40 rfl rfl rfl).1.trans (HD 6 _ 40 rfl rfl rfl).2
                  have e49 := (HD 15 _ 49 rfl rfl rfl).1.trans (HD 15 _ 49 rfl rfl rfl).2
                  go_simp; exact kk _ _ (by simp) HJ trivial rfl
                · intro a w1 vs K HJ HK HD HN kk
                  have e35 := (HD 1 _ 35 rfl rfl rfl).1.trans (HD 1 _ 35 rfl rfl rfl).2
                  have e50 := (HD 16 _ 50 rfl rfl rfl).1.trans (HD 16 _ 50 rfl rfl rfl).2
                  go_simp; exact kk _ _ (by simp) HJ trivial rfl
                · intro a w1 vs K HJ HK HD HN kk
                  have e51 := (HD 17 _ 51 rfl rfl rfl).1.trans (HD 17 _ 51 rfl rfl rfl).2
                  go_simp; exact kk _ _ (by simp) HJ trivial rfl
              intro vs w3 hw3 hrr
              have h18 : vs 18 = _ := hrr 18 _ rfl
              have HB5 := Lib.hid (HB4.out w3 hw3)
              clear hrr HH HPl HRf HLt HL0 HL1 HW3 HWv HA3 HB4 hw3
              simp only [putAll, Act.put, h18]
              go_simp
              go_wp2_with fail
              go_roundw
              case rel => exact ⟨k + 1, _, by omega, by go_num, rfl, HM, HB5⟩
              case measure => simp [intOf]; omega
            | false =>
              have HM : Hid (((S.at_ v).opn == o) = allN (k + 1) fun k => mayB S.p S.at_ ((S.p.nev i).getD k lit0)) := Lib.hid (by rw [allN_succ, ← hmb.out, HLK.out]; unfold mayB; rw [hh]; simp)
              rw [hh] at HH
              clear hh
              refine wp_region_steps (by kernel_rfl) (by kernel_rfl) (fun w1 => Below W2.heap.size W2 w1) (fun _ _ _ => True)
                (fun ix u _ _ => match ix with
                  | 0 => u = .bool true
                  | 1 => u = .bool true
                  | 2 => u = .agg (plantA x S.p)
                  | 3 => u = .agg (SysA R S)
                  | 4 => u = .agg #[.int .i64 v, .bool o]
                  | 5 => u = .bool false
                  | 6 => u = .bool false
                  | 7 => u = .pointer (some ⟨w.heap.size + 1, 3, none⟩)
                  | 8 => u = .slice (R.a 3) S.p.valves.length (R.c 3)
                  | 9 => u = .pointer (some ⟨wr.heap.size, 0, none⟩)
                  | 10 => u = .int .i64 v
                  | 11 => u = .pointer (some ⟨bw, ow + v, none⟩)
                  | 12 => u = .bool (S.at_ v).opn
                  | 13 => u = .pointer (some ⟨wr.heap.size, 1, none⟩)
                  | 14 => u = .bool o
                  | 15 => u = .bool ((S.at_ v).opn == o)
                  | 16 => u = .bool ((S.at_ v).opn == o)
                  | 17 => u = .bool ((S.at_ v).opn == o)
                  | _ => u = .bool ((S.at_ v).opn == o)) (Below.refl _ _).drew (fun _ _ _ _ _ _ _ _ h _ _ => h) ?_ ?_
              · refine ⟨?_, ?_, ?_, ?_, ?_, ?_, ?_, ?_, ?_, ?_, ?_, ?_, ?_, ?_, ?_, ?_, ?_, ?_, ?_, trivial⟩
                · intro a w1 vs K HJ HK HD HN kk
                  have e6 := HK 6 (by decide)
                  go_simp; exact kk _ _ (by simp) HJ trivial rfl
                · intro a w1 vs K HJ HK HD HN kk
                  have e34 := (HD 0 _ 34 rfl rfl rfl).1.trans (HD 0 _ 34 rfl rfl rfl).2
                  go_simp; exact kk _ _ (by simp) HJ trivial rfl
                · intro a w1 vs K HJ HK HD HN kk
                  have e35 := (HD 1 _ 35 rfl rfl rfl).1.trans (HD 1 _ 35 rfl rfl rfl).2
                  rw [if_pos (wanted_yes 1 true rfl rfl rfl e35)]
                  have e2 := HK 2 (by decide)
                  exact wpo_loadS 27 (.tmp 2) rfl w.heap.size 0 (by simpa [Act.eval] using e2) (plantA x S.p) _ (HPl.out w1 HJ) und_plant rfl info_plant (kk _ _ (by simp) HJ trivial rfl)
                · intro a w1 vs K HJ HK HD HN kk
                  have e35 := (HD 1 _ 35 rfl rfl rfl).1.trans (HD 1 _ 35 rfl rfl rfl).2
                  rw [if_pos (wanted_yes 1 true rfl rfl rfl e35)]
                  have e3 := HK 3 (by decide)
                  exact wpo_loadS 53 (.tmp 3) rfl (w.heap.size + 1) 0 (by simpa [Act.eval] using e3) (SysA R S) _ (HRf.out w1 HJ) und_state rfl info_state (kk _ _ (by simp) HJ trivial rfl)
                · intro a w1 vs K HJ HK HD HN kk
                  have e35 := (HD 1 _ 35 rfl rfl rfl).1.trans (HD 1 _ 35 rfl rfl rfl).2
                  rw [if_pos (wanted_yes 1 true rfl rfl rfl e35)]
                  have e8 := HK 8 (by decide)
                  exact wpo_loadS 79 (.tmp 8) rfl wr.heap.size 0 (by simpa [Act.eval] using e8) #[.int .i64 v, .bool o] _ (HLt.out w1 HJ) und_lit rfl info_lit (kk _ _ (by simp) HJ trivial rfl)
                · intro a w1 vs K HJ HK HD HN kk
                  have e35 := (HD 1 _ 35 rfl rfl rfl).1.trans (HD 1 _ 35 rfl rfl rfl).2
                  rw [if_pos (wanted_yes 1 true rfl rfl rfl e35)]
                  have e36 := (HD 2 _ 36 rfl rfl rfl).1.trans (HD 2 _ 36 rfl rfl rfl).2
                  have e37 := (HD 3 _ 37 rfl rfl rfl).1.trans (HD 3 _ 37 rfl rfl rfl).2
                  have e38 := (HD 4 _ 38 rfl rfl rfl).1.trans (HD 4 _ 38 rfl rfl rfl).2
                  exact wpo_call 88 _ _ rfl #[.agg (plantA x S.p), .agg (SysA R S), .agg #[.int .i64 v, .bool o]] (by simp [Act.eval, e36, e37, e38]) (fun args w => by kernel_rfl)
                    ((HH.out w1 HJ).mono fun e w' ⟨he, hb⟩ => ⟨_, he, kk _ _ (by simp) (Below.trans HJ (hb.mono HJ.size)) trivial rfl⟩)
                · intro a w1 vs K HJ HK HD HN kk
                  have e35 := (HD 1 _ 35 rfl rfl rfl).1.trans (HD 1 _ 35 rfl rfl rfl).2
                  rw [if_pos (wanted_yes 1 true rfl rfl rfl e35)]
                  have e39 := (HD 5 _ 39 rfl rfl rfl).1.trans (HD 5 _ 39 rfl rfl rfl).2
                  go_simp; exact kk _ _ (by simp) HJ trivial rfl
                · intro a w1 vs K HJ HK HD HN kk
                  have e40 := (HD 6 _ 40 rfl rfl rfl).1.trans (HD 6 _ 40 rfl rfl rfl).2
                  rw [if_pos (wanted_yes 6 false rfl rfl rfl e40)]
                  have e3 := HK 3 (by decide)
                  go_simp; exact kk _ _ (by simp) HJ trivial rfl
                · intro a w1 vs K HJ HK HD HN kk
                  have e40 := (HD 6 _ 40 rfl rfl rfl).1.trans (HD 6 _ 40 rfl rfl rfl).2
                  rw [if_pos (wanted_yes 6 false rfl rfl rfl e40)]
                  have e41 := (HD 7 _ 41 rfl rfl rfl).1.trans (HD 7 _ 41 rfl rfl rfl).2
                  have c := HW3.out w1 HJ
                  go_simp; exact kk _ _ (by simp) HJ trivial rfl
                · intro a w1 vs K HJ HK HD HN kk
                  have e40 := (HD 6 _ 40 rfl rfl rfl).1.trans (HD 6 _ 40 rfl rfl rfl).2
                  rw [if_pos (wanted_yes 6 false rfl rfl rfl e40)]
                  have e8 := HK 8 (by decide)
                  go_simp; exact kk _ _ (by simp) HJ trivial rfl
                · intro a w1 vs K HJ HK HD HN kk
                  have e40 := (HD 6 _ 40 rfl rfl rfl).1.trans (HD 6 _ 40 rfl rfl rfl).2
                  rw [if_pos (wanted_yes 6 false rfl rfl rfl e40)]
                  have e43 := (HD 9 _ 43 rfl rfl rfl).1.trans (HD 9 _ 43 rfl rfl rfl).2
                  have c := HL0.out w1 HJ
                  go_simp; exact kk _ _ (by simp) HJ trivial rfl
                · intro a w1 vs K HJ HK HD HN kk
                  have e40 := (HD 6 _ 40 rfl rfl rfl).1.trans (HD 6 _ 40 rfl rfl rfl).2
                  rw [if_pos (wanted_yes 6 false rfl rfl rfl e40)]
                  have e42 := (HD 8 _ 42 rfl rfl rfl).1.trans (HD 8 _ 42 rfl rfl rfl).2
                  have e44 := (HD 10 _ 44 rfl rfl rfl).1.trans (HD 10 _ 44 rfl rfl rfl).2
                  rw [HA3.out] at e42
                  go_simp; exact kk _ _ (by simp) HJ trivial rfl
                · intro a w1 vs K HJ HK HD HN kk
                  have e40 := (HD 6 _ 40 rfl rfl rfl).1.trans (HD 6 _ 40 rfl rfl rfl).2
                  rw [if_pos (wanted_yes 6 false rfl rfl rfl e40)]
                  have e45 := (HD 11 _ 45 rfl rfl rfl).1.trans (HD 11 _ 45 rfl rfl rfl).2
                  have c := HWv.out w1 HJ
                  go_simp; exact kk _ _ (by simp) HJ trivial rfl
                · intro a w1 vs K HJ HK HD HN kk
                  have e40 := (HD 6 _ 40 rfl rfl rfl).1.trans (HD 6 _ 40 rfl rfl rfl).2
                  rw [if_pos (wanted_yes 6 false rfl rfl rfl e40)]
                  have e8 := HK 8 (by decide)
                  go_simp; exact kk _ _ (by simp) HJ trivial rfl
                · intro a w1 vs K HJ HK HD HN kk
                  have e40 := (HD 6 _ 40 rfl rfl rfl).1.trans (HD 6 _ 40 rfl rfl rfl).2
                  rw [if_pos (wanted_yes 6 false rfl rfl rfl e40)]
                  have e47 := (HD 13 _ 47 rfl rfl rfl).1.trans (HD 13 _ 47 rfl rfl rfl).2
                  have c := HL1.out w1 HJ
                  go_simp; exact kk _ _ (by simp) HJ trivial rfl
                · intro a w1 vs K HJ HK HD HN kk
                  have e40 := (HD 6 _ 40 rfl rfl rfl).1.trans (HD 6 _ 40 rfl rfl rfl).2
                  rw [if_pos (wanted_yes 6 false rfl rfl rfl e40)]
                  have e46 := (HD 12 _ 46 rfl rfl rfl).1.trans (HD 12 _ 46 rfl rfl rfl).2
                  have e48 := (HD 14 _ 48 rfl rfl rfl).1.trans (HD 14 _ 48 rfl rfl rfl).2
                  go_simp; exact kk _ _ (by simp) HJ trivial rfl
                · intro a w1 vs K HJ HK HD HN kk
                  have e35 := (HD 1 _ 35 rfl rfl rfl).1.trans (HD 1 _ 35 rfl rfl rfl).2
                  rw [if_pos (wanted_yes 1 true rfl rfl rfl e35)]
                  have e40 := (HD 6 _ 40 rfl rfl rfl).1.trans (HD 6 _ 40 rfl rfl rfl).2
                  have e49 := (HD 15 _ 49 rfl rfl rfl).1.trans (HD 15 _ 49 rfl rfl rfl).2
                  go_simp; exact kk _ _ (by simp) HJ trivial rfl
                · intro a w1 vs K HJ HK HD HN kk
                  have e35 := (HD 1 _ 35 rfl rfl rfl).1.trans (HD 1 _ 35 rfl rfl rfl).2
                  have e50 := (HD 16 _ 50 rfl rfl rfl).1.trans (HD 16 _ 50 rfl rfl rfl).2
                  go_simp; exact kk _ _ (by simp) HJ trivial rfl
                · intro a w1 vs K HJ HK HD HN kk
                  have e51 := (HD 17 _ 51 rfl rfl rfl).1.trans (HD 17 _ 51 rfl rfl rfl).2
                  go_simp; exact kk _ _ (by simp) HJ trivial rfl
              intro vs w3 hw3 hrr
              have h18 : vs 18 = _ := hrr 18 _ rfl
              have HB5 := Lib.hid (HB4.out w3 hw3)
              clear hrr HH HPl HRf HLt HL0 HL1 HW3 HWv HA3 HB4 hw3
              simp only [putAll, Act.put, h18]
              go_simp
              go_wp2_with fail
              go_roundw
              case rel => exact ⟨k + 1, _, by omega, by go_num, rfl, HM, HB5⟩
              case measure => simp [intOf]; omega
        · obtain rfl : k = ni := by omega
          cases mb with
          | true =>
            have Hf : Hid (safeB S.p S.at_ = false) := Lib.hid (by
              rw [HS.out]; unfold allN; rw [List.all_eq_false]
              refine ⟨i, by simpa using hlt, ?_⟩
              have := hmb.out
              rw [HNI.out] at this
              show ¬ (!(allN (S.p.nev i).length fun k => mayB S.p S.at_ ((S.p.nev i).getD k lit0))) = true
              rw [← this]; simp)
            go_wp2_with fail
            go_ret
            rw [Hf.out]
            exact ⟨rfl, HB.out.trans (hb2.out.mono (by rw [HZ.out]; omega))⟩
          | false =>
            have HF : Hid (∀ j, j < i + 1 → (allN (S.p.nev j).length fun k => mayB S.p S.at_ ((S.p.nev j).getD k lit0)) = false) := Lib.hid fun j hj => by
              by_cases e : j = i
              · subst e; rw [← HNI.out]; exact hmb.out.symm
              · exact hall.out j (by omega)
            go_wp2_with fail
            go_roundw
            case rel => exact ⟨i + 1, by omega, by go_num, HF, hb2⟩
            case measure => simp [intOf]; omega
    · obtain rfl : i = nn := by omega
      have Hf : Hid (safeB S.p S.at_ = true) := Lib.hid (by rw [HS.out, allN_iff]; intro j hj; rw [hall.out j hj]; rfl)
      go_wp2_with fail
      go_ret
      rw [Hf.out]
      exact ⟨rfl, HB.out.trans (hb.out.mono (by rw [HZ.out]; omega))⟩
end Go.Proofs.YtogobjmmgjfjjaaGreat
/- What is proved: contracts of ullageref07's Put, Order, Stick, Leak. Conditions: the plant and the state lie in memory; the lists are short. -/
namespace Go.Proofs.YtogobjmmgjfjjaaGreat
open Go.RowKit

def Short (p : PlantD) : Prop := p.tanks.length ≤ 4096 ∧ p.valves.length ≤ 4096 ∧ p.lines.length ≤ 4096
/-- A state was handed back beside an error. -/
def RefBack [Exc] (w : World) (S : Sys) (E : Int) (e : Ending) (w' : World) : Prop := ∃ R', e = .returned (.tuple #[.agg (SysA R' S), .int .i64 E]) ∧ RefAt w' w'.heap.size R' S ∧ Below w.heap.size w w'
def nilR : RX := ⟨fun _ => none, fun _ => 0⟩
theorem SlD.congr {w : World} {D : Nat → Prop} {k n : Nat} {A : Option Addr} {f g : Nat → Nat → Value} (h : SlD w D k A n f) (hf : ∀ i, i < n → ∀ j, j < k → f i j = g i j) : SlD w D k A n g :=
  ⟨h.1, fun hn => by obtain ⟨b, off, e, h1, h2⟩ := h.2 hn; exact ⟨b, off, e, h1, fun i hi j hj => (h2 i hi j hj).trans (by rw [hf i hi j hj])⟩⟩
/-- The state's lists lie in no box: the boxes are from lo to hi. -/
def RefB [Exc] (w : World) (lo hi : Nat) (R : RX) (S : Sys) : Prop := Exc.top ≤ hi ∧ RefIn w (fun b => (b < lo ∨ hi ≤ b) ∧ b < w.heap.size) R S
section
variable {w w1 w2 W : World} {lo hi q g sb : Nat} {R : RX} {S S' : Sys}
theorem RefB.start [Exc] (h : RefAt w w.heap.size R S) (hb : Below w.heap.size w W) (hz : W.heap.size = w.heap.size + q) : RefB W w.heap.size (w.heap.size + q) R S :=
  ⟨by have := h.top; omega, fun k hk => SlO.mono (h.below hb k hk) fun _ hb => ⟨.inl hb, by have hb' : _ < w.heap.size := hb; omega⟩⟩
theorem RefB.at_ [Exc] (h : RefB w lo hi R S) : RefAt w w.heap.size R S := fun k hk => SlO.mono (h.2 k hk) fun _ hb => hb.2
theorem RefB.below [Exc] (h : RefB w lo hi R S) (hb : Below w.heap.size w w1) : RefB w1 lo hi R S := ⟨h.1, fun k hk => SlO.mono (SlO.keep (h.2 k hk) (fun b hb' => hb.block b hb'.2) hb.size) fun _ hb' => ⟨hb'.1, Nat.lt_of_lt_of_le hb'.2 hb.size⟩⟩
theorem RefB.only [Exc] (h : RefB w lo hi R S) (hO : Only g w w1) (h1 : lo ≤ g) (h2 : g < hi) : RefB w1 lo hi R S := ⟨h.1, fun k hk =>
  SlO.mono (SlO.keep (h.2 k hk) (fun b hb' => hO.block b (by have := hb'.1; omega)) (by rw [hO.size]; exact Nat.le_refl _)) fun _ hb' => ⟨hb'.1, by rw [hO.size]; exact hb'.2⟩⟩
theorem RefB.upd [Exc] {k : Nat} {A : Option Addr} {c : Nat} {D : Nat → Prop} (h : RefB w lo hi R S) (hA : SlD w D 1 A (lenR S.p k) fun i _ => valR S' k i) (hD : ∀ b, D b → hi ≤ b ∧ b < w.heap.size) (hp : S'.p = S.p) (hv : ∀ j, j < 9 → j ≠ k → ∀ i, valR S' j i = valR S j i) : RefB w lo hi (R.upd k A c) S' :=
  ⟨h.1, RefIn.upd h.2 (SlO.of_new hA (h.2 0 (by omega)).top fun b hb => ⟨⟨.inr (hD b hb).1, (hD b hb).2⟩, Nat.le_trans h.1 (hD b hb).1⟩) hp hv⟩
/-- One list was made anew, and its slice stored into the state's box. -/
theorem RefB.step [Exc] {k : Nat} {A : Option Addr} (h : RefB w1 lo hi R S) (hhi : hi ≤ w1.heap.size) (hb : Bk w1 sb 53 (SysA R S)) (hl : lo ≤ sb) (hu : sb < hi) (h2 : Below w1.heap.size w1 w2) (hk : k < 9) (c : Nat)
    (hA : SlD w2 (fun b => w1.heap.size ≤ b ∧ b < w2.heap.size) 1 A (lenR S.p k) fun i _ => valR S' k i) (hp : S'.p = S.p) (hv : ∀ j, j < 9 → j ≠ k → ∀ i, valR S' j i = valR S j i) :
    Bk (w2.setCell ⟨sb, k, none⟩ (.slice A (lenR S.p k) c)) sb 53 (SysA (R.upd k A c) S') ∧ RefB (w2.setCell ⟨sb, k, none⟩ (.slice A (lenR S.p k) c)) lo hi (R.upd k A c) S' := by
  have hO := Only.setCell w2 sb k (.slice A (lenR S.p k) c)
  refine ⟨?_, ?_⟩
  · have := (hb.below h2 hb.lt).set k (.slice A (lenR S.p k) c)
    rw [SysA_set R S k hk] at this
    show Bk _ _ _ (refA _ S'.p.tanks.length S'.p.valves.length S'.p.lines.length)
    rw [hp]; exact this
  · refine RefB.upd ((h.below h2).only hO hl hu) (D := fun b => w1.heap.size ≤ b ∧ b < w2.heap.size) ?_ (fun _ hb' => ⟨by omega, by rw [hO.size]; exact hb'.2⟩) hp hv
    exact hA.keep fun b hb' => hO.block b (by have := hb'.1; omega)
end
theorem valR_want (S : Sys) (n : Nat) (o : Bool) : ∀ j, j < 9 → j ≠ 3 → ∀ i, valR { S with at_ := wantB S.at_ n o } j i = valR S j i := by
  intro j _ hne i
  match j, hne with
  | 0, _ => rfl
  | 1, _ => rfl
  | 2, _ =>
    show Value.int .i64 (wantB S.at_ n o i).place = .int .i64 (S.at_ i).place
    unfold wantB
    split
    · rename_i e; rw [e]
    · rfl
  | 4, _ => rfl
  | 5, _ => rfl
  | 6, _ => rfl
  | 7, _ => rfl
  | n + 8, _ => rfl
set_option maxRecDepth 100000 in
set_option maxHeartbeats 2000000 in
theorem refOrder_any [Exc] (w : World) (x : PV) (R : RX) (S : Sys) (hp : PlantAt w w.heap.size x S.p) (hr : RefAt w w.heap.size R S) (hs : Short S.p) (hN : NeverOk S.p) (v : Int) (o : Bool) :
    Calls Tryz.prog 45 #[.agg (plantA x S.p), .agg (SysA R S), .agg #[.int .i64 v, .bool o]] w (RefBack w (orderB S v o).2 (orderB S v o).1) := by
  obtain ⟨hs1, hs2, hs3⟩ := hs
  have hwr : IntKind.i64.wrap ((S.p.tanks.length : Int) - 1) = (S.p.tanks.length : Int) - 1 := IntWalk.i64_in _ (by omega)
  have hwv : IntKind.i64.wrap ((S.p.valves.length : Int) - 1) = (S.p.valves.length : Int) - 1 := IntWalk.i64_in _ (by omega)
  obtain ⟨W, hW⟩ : ∃ W, W = ((((w.alloc (.cells (plantA x S.p) 27)).alloc (.cells (SysA R S) 53)).alloc (.cells (#[.int .i64 v, .bool o]) 38)).alloc (.cells (refA nilR 0 0 0) 53)) := ⟨_, rfl⟩
  have hbW : Below w.heap.size w W := by rw [hW]; exact ((((Below.refl _ _).alloc (Nat.le_refl _) _).alloc (by simp) _).alloc (by simp; omega) _).alloc (by simp; omega) _
  have hWs : W.heap.size = w.heap.size + 4 := by rw [hW]; simp
  have hb0 : Bk W (w.heap.size) 27 (plantA x S.p) := by rw [hW]; exact (((Bk.new _ _ _).alloc _).alloc _).alloc _
  have hb1 : Bk W (w.heap.size + 1) 53 (SysA R S) := by rw [hW]; exact ((Bk.newAt _ _ _ _ (by simp)).alloc _).alloc _
  have hb2 : Bk W (w.heap.size + 1 + 1) 38 (#[.int .i64 v, .bool o]) := by rw [hW]; exact (Bk.newAt _ _ _ _ (by simp)).alloc _
  have hb3 : Bk W (w.heap.size + 1 + 1 + 1) 53 (refA nilR 0 0 0) := by rw [hW]; exact Bk.newAt _ _ _ _ (by simp)
  have HB1 := Lib.hid hbW
  have HRr := Lib.hid (RefB.start hr hbW hWs)
  have hW5 : Below w.heap.size w (W.alloc (.cells (refA nilR 0 0 0) 53)) := hbW.alloc (by omega) _
  have HR5 := Lib.hid (RefB.start (q := 5) hr hW5 (by simp; omega))
  have HB5 := Lib.hid hW5
  have HA := Lib.hid (Bk.new W 53 (refA nilR 0 0 0))
  have HN := Lib.hid hN
  clear hN hW5
  have HPp := Lib.hid (hp.below hbW)
  have HQ0 := Lib.hid hb0
  have HQ := Lib.hid hb1
  have HQo := Lib.hid hb2
  have HQ5 := Lib.hid hb3
  have HZ := Lib.hid hWs
  have HW := Lib.hid hW
  simp only [nilR, refA, SysA, plantA] at HW
  clear hW hp hr hbW hWs hb0 hb1 hb2 hb3
  dsimp only [refA, SysA, plantA]
  go_enter Tryz.func45, Tryz.ntmps45
  go_wp2_with fail
  rw [← HW.out]
  refine (in_any _ _ _ _).mono ?_
  rintro e w' ⟨rfl, rfl⟩
  by_cases h1 : inB v 0 (S.p.valves.length - 1) = true
  case neg =>
    have h1' : inB v 0 ((S.p.valves.length : Int) - 1) = false := by simpa using h1
    have Hf := Lib.hid (show orderB S v o = (7, S) by unfold orderB; rw [if_neg h1])
    clear h1
    go_wp2_with (first | (refine wpLoadAt rfl 53 _ rfl (w.heap.size + 1) 0 rfl (SysA R S) _ (fun j u hj => by rw [Nat.zero_add]; exact (HQ.out.cell j).trans hj) und_state rfl info_state ?_) | (refine wpStoreAt rfl rfl 53 _ _ rfl (w.heap.size + 1 + 1 + 1) 0 rfl (SysA R S) rfl 53 _ HQ5.out (by show 0 + 9 ≤ 9; omega) (refA_one _ _ _ _) info_state ?_; intro wf hkf hof))
    refine bodyPost_ret (results_cellS_tmp rfl _ _ (w.heap.size + 1 + 1 + 1) 53 (SysA R S) _ rfl (by rw [splA_all _ _ (by rw [refA_size, refA_size])] at hkf; exact hkf) und_state rfl info_state) rfl ?_
    rw [Hf.out]
    exact ⟨R, rfl, (HRr.out.only hof (by omega) (by omega)).at_, HB1.out.trans (hof.below (by omega))⟩
  case pos =>
    have h1' : inB v 0 ((S.p.valves.length : Int) - 1) = true := h1
    obtain ⟨g1, g2⟩ := inB_iff.1 h1
    obtain ⟨n, rfl⟩ := Int.eq_ofNat_of_zero_le g1
    have hn : n < S.p.valves.length := by omega
    have Hf0 := Lib.hid (show orderB S n o = if safeB S.p (wantB S.at_ n o) then (0, { S with at_ := wantB S.at_ n o }) else (9, S) by unfold orderB; rw [if_pos h1, Int.toNat_natCast])
    clear h1 g1 g2
    go_wp2_with (first | (refine wpLoadAt rfl 53 _ rfl (w.heap.size + 1) 0 rfl (SysA R S) _ (fun j u hj => by rw [Nat.zero_add]; exact (HQ.out.cell j).trans hj) und_state rfl info_state ?_) | (refine wpStoreAt rfl rfl 53 _ _ rfl W.heap.size 0 rfl (SysA R S) rfl 53 _ HA.out (by show 0 + 9 ≤ 9; omega) (refA_one _ _ _ _) info_state ?_; intro wn hkn hon; have hqs := (HQ.out.alloc _).only hon (by rw [HZ.out]; omega); have e3 : wn.cell? ⟨w.heap.size + 1, 3, none⟩ = some (.slice (R.a 3) S.p.valves.length (R.c 3)) := hqs.cell 3; have hqo := (HQo.out.alloc _).only hon (by rw [HZ.out]; omega); have o0 : wn.cell? ⟨w.heap.size + 1 + 1, 0, none⟩ = some (.int .i64 n) := hqo.cell 0; have o1 : wn.cell? ⟨w.heap.size + 1 + 1, 1, none⟩ = some (.bool o) := hqo.cell 1))
    have hk0 : Bk wn W.heap.size 53 (SysA R S) := by rw [splA_all _ _ (by rw [refA_size, refA_size])] at hkn; exact hkn
    have hrn := HR5.out.only hon (by rw [HZ.out]; omega) (by rw [HZ.out]; omega)
    have hbn : Below w.heap.size w wn := HB5.out.trans (hon.below (by rw [HZ.out]; omega))
    have hz := HZ.out
    have hwn : wn.heap.size = w.heap.size + 5 := by rw [hon.size]; simp; omega
    have hpn := (HPp.out.below (((Below.refl _ _).alloc (by omega) _ : Below w.heap.size W (W.alloc (.cells (refA nilR 0 0 0) 53))).trans (hon.below (by omega))))
    refine (withBool_any wn (R.a 3) S.p.valves.length (R.c 3) (fun i => (S.at_ i).opn) (hrn.at_ 3 (by omega)).sl hs2 n hn o).mono ?_
    rintro e w2 ⟨A2, C2, rfl, hsl, hbb⟩
    have hq2 := hk0.below hbb hk0.lt
    have q2 : w2.cell? ⟨W.heap.size, 3, none⟩ = some (.slice (R.a 3) S.p.valves.length (R.c 3)) := (hq2.cell 3).trans (SysA_get R S 3 (by omega))
    have f2 := hq2.free 3
    have hst := RefB.step hrn (by omega) hk0 (by omega) (by omega) hbb (k := 3) (by omega) C2 (S' := { S with at_ := wantB S.at_ n o }) (hsl.congr (fun i _ j _ => by show Value.bool (if i = n then o else (S.at_ i).opn) = .bool (wantB S.at_ n o i).opn; unfold wantB; split <;> rfl)) rfl (valR_want S n o)
    obtain ⟨w3, hw3⟩ : ∃ w3, w3 = w2.setCell ⟨W.heap.size, 3, none⟩ (.slice A2 (lenR S.p 3) C2) := ⟨_, rfl⟩
    rw [← hw3] at hst
    have hO3 : Only W.heap.size w2 w3 := by rw [hw3]; exact Only.setCell _ _ _ _
    have hb23 : Below w.heap.size wn w3 := (hbb.mono (by omega)).trans (hO3.below (by omega))
    have HS3 := Lib.hid hst
    have HB3 := Lib.hid (hbn.trans hb23)
    have HZ3 : Hid (w.heap.size + 5 ≤ w3.heap.size) := Lib.hid (by rw [hO3.size]; have := hbb.size; omega)
    have HRn3 := Lib.hid ((hrn.below hbb).only hO3 (by omega) (by omega))
    have HQ3 := Lib.hid ((hqs.below hbb hqs.lt).only hO3 (by omega))
    have HQ53 := Lib.hid ((((HQ5.out.alloc _).only hon (by omega)).below hbb (by omega)).only hO3 (by omega))
    have HP3 := Lib.hid (((((HQ0.out.alloc _).only hon (by omega)).below hbb (by omega)).only hO3 (by omega)))
    have HPl3 := Lib.hid ((hpn.below hb23).mono (show w.heap.size ≤ w3.heap.size by have := HZ3.out; omega))
    have HW3 := Lib.hid hw3
    have HSF := Lib.hid (refSafe_any w3 x (R.upd 3 A2 C2) { S with at_ := wantB S.at_ n o } HPl3.out (HS3.out.2.at_) HN.out)
    clear hst hw3 hO3 hb23 hsl hbb hq2 hk0 hrn hbn hz hwn hpn hqs hqo hkn hon e3 o0 o1
    go_wp2_with (first | (rw [show w2.setCell ⟨W.heap.size, 3, none⟩ (.slice A2 S.p.valves.length C2) = w3 from HW3.out.symm]; refine wpLoadAt rfl 27 _ rfl w.heap.size 0 rfl (plantA x S.p) _ (fun j u hj => by rw [Nat.zero_add]; exact (HP3.out.cell j).trans hj) und_plant rfl info_plant ?_) | (refine wpLoadAt rfl 53 _ rfl W.heap.size 0 rfl (SysA (R.upd 3 A2 C2) { S with at_ := wantB S.at_ n o }) _ (fun j u hj => by rw [Nat.zero_add]; exact (HS3.out.1.cell j).trans hj) und_state rfl info_state ?_))
    refine HSF.out.mono ?_
    rintro e w4 ⟨rfl, hb4⟩
    have HR4 := Lib.hid (HS3.out.2.below hb4)
    have HRn4 := Lib.hid (HRn3.out.below hb4)
    have HB4 := Lib.hid (HB3.out.trans (hb4.mono HB3.out.size))
    have HN4 := Lib.hid (HS3.out.1.below hb4 HS3.out.1.lt)
    have HQ4 := Lib.hid (HQ3.out.below hb4 HQ3.out.lt)
    have HQ54 := Lib.hid (HQ53.out.below hb4 HQ53.out.lt)
    have HZ4 : Hid (w.heap.size + 5 ≤ w4.heap.size) := Lib.hid (Nat.le_trans HZ3.out hb4.size)
    clear hb4 HSF
    cases hq : safeB S.p (wantB S.at_ n o) with
    | false =>
      have Hf := Lib.hid (show orderB S n o = (9, S) by rw [Hf0.out, hq]; rfl)
      clear hq
      go_wp2_with (first | (refine wpLoadAt rfl 53 _ rfl (w.heap.size + 1) 0 rfl (SysA R S) _ (fun j u hj => by rw [Nat.zero_add]; exact (HQ4.out.cell j).trans hj) und_state rfl info_state ?_) | (refine wpStoreAt rfl rfl 53 _ _ rfl (w.heap.size + 1 + 1 + 1) 0 rfl (SysA R S) rfl 53 _ HQ54.out (by show 0 + 9 ≤ 9; omega) (refA_one _ _ _ _) info_state ?_; intro wf hkf hof))
      have hz := HZ4.out
      refine bodyPost_ret (results_cellS_tmp rfl _ _ (w.heap.size + 1 + 1 + 1) 53 (SysA R S) _ rfl (by rw [splA_all _ _ (by rw [refA_size, refA_size])] at hkf; exact hkf) und_state rfl info_state) rfl ?_
      rw [Hf.out]
      exact ⟨R, rfl, (HRn4.out.only hof (by omega) (by omega)).at_, HB4.out.trans (hof.below (by omega))⟩
    | true =>
      have Hf := Lib.hid (show orderB S n o = (0, { S with at_ := wantB S.at_ n o }) by rw [Hf0.out, hq]; rfl)
      clear hq
      go_wp2_with (first | (refine wpLoadAt rfl 53 _ rfl W.heap.size 0 rfl (SysA (R.upd 3 A2 C2) { S with at_ := wantB S.at_ n o }) _ (fun j u hj => by rw [Nat.zero_add]; exact (HN4.out.cell j).trans hj) und_state rfl info_state ?_) | (refine wpStoreAt rfl rfl 53 _ _ rfl (w.heap.size + 1 + 1 + 1) 0 rfl (SysA (R.upd 3 A2 C2) { S with at_ := wantB S.at_ n o }) rfl 53 _ HQ54.out (by show 0 + 9 ≤ 9; omega) (refA_one _ _ _ _) info_state ?_; intro wf hkf hof))
      have hz := HZ4.out
      refine bodyPost_ret (results_cellS_tmp rfl _ _ (w.heap.size + 1 + 1 + 1) 53 (SysA (R.upd 3 A2 C2) { S with at_ := wantB S.at_ n o }) _ rfl (by rw [splA_all _ _ (by rw [refA_size, refA_size])] at hkf; exact hkf) und_state rfl info_state) rfl ?_
      rw [Hf.out]
      exact ⟨(R.upd 3 A2 C2), rfl, (HR4.out.only hof (by omega) (by omega)).at_, HB4.out.trans (hof.below (by omega))⟩
end Go.Proofs.YtogobjmmgjfjjaaGreat
/- What is proved: a contract of ullageref07.moved. Conditions: the plant and the state lie in memory; the places are a plant's. -/
namespace Go.Proofs.YtogobjmmgjfjjaaGreat
open Go.RowKit

/-- A state was handed back. -/
def RefOne [Exc] (w : World) (S : Sys) (e : Ending) (w' : World) : Prop := ∃ R', e = .returned (.agg (SysA R' S)) ∧ RefAt w' w'.heap.size R' S ∧ Below w.heap.size w w'
theorem new_stays {w1 w2 : World} {B nv sb : Nat} {A : Option Addr} {f : Nat → Nat → Value} (h : SlD w1 (fun b => B ≤ b ∧ b < w1.heap.size) 1 A nv f) (hE : Below w1.heap.size w1 w2 ∨ Only sb w1 w2) (hsb : sb < B) : SlD w2 (fun b => B ≤ b ∧ b < w2.heap.size) 1 A nv f := by
  rcases hE with hb | hO
  · exact (h.keep fun b hb' => hb.block b hb'.2).mono fun b hb' => ⟨hb'.1, Nat.lt_of_lt_of_le hb'.2 hb.size⟩
  · exact (h.keep fun b hb' => hO.block b (by have := hb'.1; omega)).mono fun b hb' => ⟨hb'.1, by rw [hO.size]; exact hb'.2⟩
def Sys.mv (S : Sys) (k : Nat) : Sys := { S with at_ := movedK S.p S.at_ S.stuck k }
theorem mv_opn (S : Sys) (k i : Nat) : ((S.mv k).at_ i).opn = (S.at_ i).opn := by
  show (movedK S.p S.at_ S.stuck k i).opn = _
  unfold movedK
  split
  · unfold move1; split
    · rfl
    · split <;> rfl
  · rfl
theorem mv_at (S : Sys) (k : Nat) : (S.mv k).at_ k = S.at_ k := movedK_at _ _ _ _
theorem mv_succ (S : Sys) (k i : Nat) : ((S.mv (k + 1)).at_ i) = if i = k then move1 (S.p.valve k).travel (S.stuck k) (S.at_ k) else (S.mv k).at_ i := by
  show movedK S.p S.at_ S.stuck (k + 1) i = _
  rw [movedK_succ, movedK_at]
  rfl
theorem valR_mv (S : Sys) (k : Nat) : ∀ j, j < 9 → j ≠ 2 → ∀ i, valR (S.mv (k + 1)) j i = valR (S.mv k) j i := by
  intro j _ hne i
  match j, hne with
  | 0, _ => rfl
  | 1, _ => rfl
  | 3, _ => show Value.bool ((S.mv (k + 1)).at_ i).opn = .bool ((S.mv k).at_ i).opn; rw [mv_opn, mv_opn]
  | 4, _ => rfl
  | 5, _ => rfl
  | 6, _ => rfl
  | 7, _ => rfl
  | n + 8, _ => rfl
/-- Behind k valves; blocks lo, lo + 1, lo + 2 are the boxes. -/
def MvR [Exc] (w : World) (x : PV) (S : Sys) (wr : World) (k : Nat) : Prop :=
  ∃ R, Bk wr (w.heap.size + 1) 53 (SysA R (S.mv k)) ∧ RefB wr w.heap.size (w.heap.size + 3) R (S.mv k) ∧ Bk wr w.heap.size 27 (plantA x S.p) ∧ Bk wr (w.heap.size + 1 + 1) 53 (refA nilR 0 0 0) ∧
    PlantAt wr w.heap.size x S.p ∧ Below w.heap.size w wr ∧ w.heap.size + 3 ≤ wr.heap.size
theorem MvR.look [Exc] {w : World} {x : PV} {S : Sys} {wr : World} {k : Nat} (h : MvR w x S wr k) {nv : Nat} (hnv : nv = S.p.valves.length) {j : Nat} (hj : j < nv) :
    ∃ b4 o4 c4 b3 o3 c3, wr.cell? ⟨w.heap.size + 1, 4, none⟩ = some (.slice (some ⟨b4, o4, none⟩) nv c4) ∧ wr.cell? ⟨b4, o4 + j, none⟩ = some (.bool (S.stuck j)) ∧
      wr.cell? ⟨w.heap.size + 1, 3, none⟩ = some (.slice (some ⟨b3, o3, none⟩) nv c3) ∧ wr.cell? ⟨b3, o3 + j, none⟩ = some (.bool (S.at_ j).opn) := by
  obtain ⟨R, hb1, hr, _, _, _, _, _⟩ := h
  have hj' : j < S.p.valves.length := by rw [← hnv]; exact hj
  obtain ⟨bw, ow, hAw, hBw, w1c⟩ := (hr.at_.want).at1v hj'
  rw [mv_opn] at w1c
  have hstk : Sl wr wr.heap.size 1 (R.a 4) S.p.valves.length fun i _ => .bool (S.stuck i) := (hr.at_ 4 (by omega)).sl
  obtain ⟨bs, os, hAs, hBs, s1c⟩ := hstk.at1v hj'
  exact ⟨bs, os, R.c 4, bw, ow, R.c 3, by rw [hnv, ← hAs]; exact (hb1.cell 4).trans (SysA_get R (S.mv k) 4 (by omega)), s1c, by rw [hnv, ← hAw]; exact (hb1.cell 3).trans (SysA_get R (S.mv k) 3 (by omega)), w1c⟩
/-- A new list of places was stored. -/
theorem MvR.step [Exc] {w : World} {x : PV} {S : Sys} {wr w1 : World} {k : Nat} {R : RX} (hb1 : Bk wr (w.heap.size + 1) 53 (SysA R (S.mv k))) (hr : RefB wr w.heap.size (w.heap.size + 3) R (S.mv k)) (hb0 : Bk wr w.heap.size 27 (plantA x S.p))
    (hb2 : Bk wr (w.heap.size + 1 + 1) 53 (refA nilR 0 0 0)) (hp : PlantAt wr w.heap.size x S.p) (hb : Below w.heap.size w wr) (hsz : w.heap.size + 3 ≤ wr.heap.size) (hw1 : Below wr.heap.size wr w1) {nv : Nat} (hnv : nv = S.p.valves.length)
    (A : Option Addr) (c : Nat) (v : Int) (hv : v = (move1 (S.p.valve k).travel (S.stuck k) (S.at_ k)).place)
    (hA : SlD w1 (fun b => wr.heap.size ≤ b ∧ b < w1.heap.size) 1 A nv (fun j _ => .int .i64 (if j = k then v else ((S.mv k).at_ j).place))) : MvR w x S (w1.setCell ⟨w.heap.size + 1, 2, none⟩ (.slice A nv c)) (k + 1) := by
  subst hnv
  have hst := RefB.step hr hsz hb1 (by omega) (by omega) hw1 (k := 2) (by omega) c (S' := S.mv (k + 1)) (hA.congr (fun i _ j _ => by
    show Value.int .i64 _ = .int .i64 ((S.mv (k + 1)).at_ i).place
    rw [mv_succ]
    split
    · rw [hv]
    · rfl)) rfl (valR_mv S k)
  have hO := Only.setCell w1 (w.heap.size + 1) 2 (.slice A S.p.valves.length c)
  have hbx : Below w.heap.size wr (w1.setCell ⟨w.heap.size + 1, 2, none⟩ (.slice A S.p.valves.length c)) := (hw1.mono (by omega)).trans (hO.below (by omega))
  exact ⟨_, hst.1, hst.2, (hb0.below hw1 (by omega)).only hO (by omega), (hb2.below hw1 (by omega)).only hO (by omega), hp.below hbx, hb.trans hbx, by rw [hO.size]; have := hw1.size; omega⟩
def MvS [Exc] (w : World) (x : PV) (S : Sys) (_ : World) (w1 : World) (k : Nat) : Prop := MvR w x S w1 k

set_option maxRecDepth 100000 in
set_option maxHeartbeats 4000000 in
theorem refMoved_any [Exc] (w : World) (x : PV) (R : RX) (S : Sys) (hp : PlantAt w w.heap.size x S.p) (hr : RefAt w w.heap.size R S) (hv : ValvesOk S.p) (hs : SpotsOk S.p S.at_) :
    Calls Tryz.prog 46 #[.agg (plantA x S.p), .agg (SysA R S)] w
      (RefOne w { S with at_ := movedB S.p S.at_ S.stuck }) := by
  obtain ⟨W, hW⟩ : ∃ W, W = ((w.alloc (.cells (plantA x S.p) 27)).alloc (.cells (SysA R S) 53)).alloc (.cells (refA nilR 0 0 0) 53) := ⟨_, rfl⟩
  have hbW : Below w.heap.size w W := by rw [hW]; exact (((Below.refl _ _).alloc (Nat.le_refl _) _).alloc (by simp) _).alloc (by simp; omega) _
  have hWs : W.heap.size = w.heap.size + 3 := by rw [hW]; simp
  have hb0 : Bk W w.heap.size 27 (plantA x S.p) := by rw [hW]; exact ((Bk.new _ _ _).alloc _).alloc _
  have hb1 : Bk W (w.heap.size + 1) 53 (SysA R S) := by rw [hW]; exact (Bk.newAt _ _ _ _ (by simp)).alloc _
  have hb2 : Bk W (w.heap.size + 1 + 1) 53 (refA nilR 0 0 0) := by rw [hW]; exact Bk.newAt _ _ _ _ (by simp)
  have hm0 : S.mv 0 = S := by unfold Sys.mv; rw [movedK_zero]
  have HM0 : Hid (MvR w x S W 0) := Lib.hid ⟨R, by rw [hm0]; exact hb1, by rw [hm0]; exact RefB.start hr hbW hWs, hb0, hb2, hp.below hbW, hbW, by omega⟩
  have HW := Lib.hid hW
  have hv12 := hv.1
  have HV := Lib.hid hv
  have HS := Lib.hid hs
  obtain ⟨nv, hnvv⟩ : ∃ nv, nv = S.p.valves.length := ⟨_, rfl⟩
  rw [← hnvv] at hv12
  have hnv : nv ≤ 4096 := by omega
  have HNV := Lib.hid hnvv
  simp only [nilR, refA, SysA, plantA] at HW
  clear hp hr hv hs hW hbW hWs hb0 hb1 hb2 hm0 hnvv
  dsimp only [refA, SysA, plantA]
  go_enter Tryz.func46, Tryz.ntmps46
  go_wp2_with fail
  rw [← HW.out]
  go_loopw [5] (fun i wr => ∃ k : Nat, k ≤ nv ∧ i = .int .i64 k ∧ Hid (MvR w x S wr k)) (fun i _ => nv - (intOf i).toNat)
  case atStart => exact ⟨0, Nat.zero_le _, rfl, HM0⟩
  case round =>
    obtain ⟨k, hk, rfl, hM⟩ := hrel
    clear HM0
    obtain ⟨R, hb1, hr, hb0, hb2, hp, hb, hsz⟩ := hM.out
    have cv1 : wr.cell? ⟨w.heap.size, 1, none⟩ = some (.slice x.vA nv x.vc) := by rw [HNV.out]; exact hb0.cell 1
    by_cases hlt : k < nv
    · have hlt' : k < S.p.valves.length := by rw [← HNV.out]; exact hlt
      obtain ⟨bv, ov, hAv, hBv, _, d1, _⟩ := hp.valves.at3 hlt'
      simp only [valveC] at d1
      obtain ⟨bp, op, hAp, hBp, p1⟩ := (hr.at_.place).at1v hlt'
      rw [mv_at] at p1
      obtain ⟨bw, ow, hAw, hBw, w1c⟩ := (hr.at_.want).at1v hlt'
      rw [mv_opn] at w1c
      have hstk : Sl wr wr.heap.size 1 (R.a 4) S.p.valves.length fun i _ => .bool (S.stuck i) := (hr.at_ 4 (by omega)).sl
      obtain ⟨bs, os, hAs, hBs, s1c⟩ := hstk.at1v hlt'
      have ht := HV.out.2 k hlt'
      have hpl := HS.out.1 k hlt'
      have e4 : wr.cell? ⟨w.heap.size + 1, 4, none⟩ = some (.slice (some ⟨bs, os, none⟩) nv (R.c 4)) := by rw [HNV.out, ← hAs]; exact (hb1.cell 4).trans (SysA_get R (S.mv k) 4 (by omega))
      have e3 : wr.cell? ⟨w.heap.size + 1, 3, none⟩ = some (.slice (some ⟨bw, ow, none⟩) nv (R.c 3)) := by rw [HNV.out, ← hAw]; exact (hb1.cell 3).trans (SysA_get R (S.mv k) 3 (by omega))
      have hki : (k : Int) < (nv : Int) := by omega
      have h0k : (0 : Int) ≤ (k : Int) := by omega
      have hw1 : IntKind.i64.wrap ((S.at_ k).place + 1) = (S.at_ k).place + 1 := IntWalk.i64_in _ (by omega)
      have hw2 : IntKind.i64.wrap ((S.at_ k).place - 1) = (S.at_ k).place - 1 := IntWalk.i64_in _ (by omega)
      have HBX := Lib.hid hb1
      have HRB := Lib.hid hr
      have HB0 := Lib.hid hb0
      have HB2 := Lib.hid hb2
      have HP := Lib.hid hp
      have HBB := Lib.hid hb
      have HSZ := Lib.hid hsz
      have HAv := Lib.hid hAv
      have HA2 := Lib.hid hAp
      have HD1 := Lib.hid d1
      have HP1 := Lib.hid p1
      clear hb1 hr hb0 hb2 hp hb hAv hAp hAw hAs hstk d1 p1
      cases hst : S.stuck k with
      | true =>
        have HE : Hid (S.mv (k + 1) = S.mv k) := Lib.hid (by
          have : (S.mv (k + 1)).at_ = (S.mv k).at_ := by
            funext i; rw [mv_succ]; split
            · rename_i e; subst e; rw [mv_at, hst]; rfl
            · rfl
          unfold Sys.mv at this ⊢
          simp only at this
          rw [this])
        rw [hst] at s1c
        clear hst
        go_wp2_with fail
        go_roundw
        case rel => exact ⟨k + 1, by omega, by go_num, Lib.hid ⟨R, by rw [HE.out]; exact HBX.out, by rw [HE.out]; exact HRB.out, HB0.out, HB2.out, HP.out, HBB.out, HSZ.out⟩⟩
        case measure => simp [intOf]; omega
      | false =>
        have HLT : Hid (w.heap.size + 1 < wr.heap.size) := Lib.hid (by have := HSZ.out; omega)
        have HG2 : Hid ((SysA R (S.mv k))[2]? = some (.slice (R.a 2) nv (R.c 2))) := Lib.hid (by rw [HNV.out]; exact SysA_get R (S.mv k) 2 (by omega))
        have HC2 : Hid (∀ w1, Below wr.heap.size wr w1 → w1.cell? ⟨w.heap.size + 1, 2, none⟩ = some (.slice (R.a 2) nv (R.c 2))) := Lib.hid fun w1 hw1 => ((HBX.out.below hw1 HLT.out).cell 2).trans HG2.out
        have HCP : Hid (∀ w1, Below wr.heap.size wr w1 → w1.cell? ⟨bp, op + k, none⟩ = some (.int .i64 (S.at_ k).place)) := Lib.hid fun w1 hw1 => (hw1.cell (p := ⟨bp, op + k, none⟩) hBp).trans HP1.out
        have HCV : Hid (∀ w1, Below wr.heap.size wr w1 → w1.cell? ⟨w.heap.size, 1, none⟩ = some (.slice (some ⟨bv, ov, none⟩) nv x.vc)) := Lib.hid fun w1 hw1 => by
          rw [← HAv.out, HNV.out]; exact (HB0.out.below hw1 (by have := HLT.out; omega)).cell 1
        have HCT : Hid (∀ w1, Below wr.heap.size wr w1 → w1.cell? ⟨bv, ov + k * 3 + 1, none⟩ = some (.int .i64 (S.p.valve k).travel)) := Lib.hid fun w1 hw1 => (hw1.cell (p := ⟨bv, ov + k * 3 + 1, none⟩) (by show bv < wr.heap.size; have := HLT.out; omega)).trans HD1.out
        have HPL : Hid (∀ w1, Below wr.heap.size wr w1 → Sl w1 w1.heap.size 1 (R.a 2) nv fun j _ => .int .i64 ((S.mv k).at_ j).place) := Lib.hid fun w1 hw1 => by rw [HNV.out]; exact (HRB.out.below hw1).at_.place
        cases hwt : (S.at_ k).opn with
        | true =>
          have HSTEP : Hid (∀ w1, Below wr.heap.size wr w1 → ∀ A c, SlD w1 (fun b => wr.heap.size ≤ b ∧ b < w1.heap.size) 1 A nv (fun j _ => .int .i64 (if j = k then if (S.p.valve k).travel < (S.at_ k).place + 1 then (S.p.valve k).travel else (S.at_ k).place + 1 else ((S.mv k).at_ j).place)) → MvS w x S wr (w1.setCell ⟨w.heap.size + 1, 2, none⟩ (.slice A nv c)) (k + 1)) := Lib.hid fun w1 hw1 A c hA =>
            MvR.step HBX.out HRB.out HB0.out HB2.out HP.out HBB.out HSZ.out hw1 HNV.out A c _ (by unfold move1; rw [hst, hwt]; exact (min_go _ _).symm) hA
          rw [hst] at s1c
          rw [hwt] at w1c
          have HST := Lib.hid hst
          have HWT := Lib.hid hwt
          clear hst hwt
          go_wp2_with fail
          refine wp_region_stepsM (by kernel_rfl) (by kernel_rfl) 18 (by decide) (fun bq w1 => if bq = true then MvS w x S wr w1 (k + 1) else Below wr.heap.size wr w1) (fun j w1 w2 => (j ≠ 18 → Below w1.heap.size w1 w2) ∧ (j = 18 → Only (w.heap.size + 1) w1 w2))
            (fun ix u d w1 => (match ix with
              | 0 => u = .pointer (some ⟨w.heap.size + 1, 2, none⟩)
              | 1 => u = .slice (R.a 2) nv (R.c 2)
              | 2 => u = .int .i64 k
              | 3 => u = .pointer (some ⟨w.heap.size + 1, 2, none⟩)
              | 4 => u = .slice (R.a 2) nv (R.c 2)
              | 5 => u = .int .i64 k
              | 6 => u = .pointer (some ⟨bp, op + k, none⟩)
              | 7 => u = .int .i64 (S.at_ k).place
              | 8 => u = .int .i64 ((S.at_ k).place + 1)
              | 9 => u = .pointer (some ⟨w.heap.size, 1, none⟩)
              | 10 => u = .slice (some ⟨bv, ov, none⟩) nv x.vc
              | 11 => u = .int .i64 k
              | 12 => u = .pointer (some ⟨bv, ov + k * 3, none⟩)
              | 13 => u = .pointer (some ⟨bv, ov + k * 3 + 1, none⟩)
              | 14 => u = .int .i64 (S.p.valve k).travel
              | 15 => u = .int .i64 (if (S.p.valve k).travel < (S.at_ k).place + 1 then (S.p.valve k).travel else (S.at_ k).place + 1)
              | 16 => True
              | 17 => u = .pointer (some ⟨w.heap.size + 1, 2, none⟩)
              | _ => True) ∧ (ix = 16 → ∃ A c, u = .slice A nv c ∧ SlD w1 (fun b => wr.heap.size ≤ b ∧ b < w1.heap.size) 1 A nv (fun j _ => .int .i64 (if j = k then if (S.p.valve k).travel < (S.at_ k).place + 1 then (S.p.valve k).travel else (S.at_ k).place + 1 else ((S.mv k).at_ j).place)))) (Below.refl _ _).drew (by rintro i j hij _ u d w1 w2 ⟨hr1, hr2⟩ ⟨hE1, hE2⟩; refine ⟨hr1, fun e => ?_⟩; obtain ⟨A, c, e1, e2⟩ := hr2 e; exact ⟨A, c, e1, new_stays e2 (if hj : j = 18 then .inr (hE2 hj) else .inl (hE1 hj)) HLT.out⟩) ?_ ?_
          · refine ⟨?_, ?_, ?_, ?_, ?_, ?_, ?_, ?_, ?_, ?_, ?_, ?_, ?_, ?_, ?_, ?_, ?_, ?_, ?_, trivial⟩
            · intro a w1 vs K bq Hb HJ HK HD HN kk
              obtain rfl : bq = false := by cases bq with | false => rfl | true => exact absurd (Hb rfl).2 (by decide)
              have HJ' : Below wr.heap.size wr w1 := HJ
              have e3 := HK 3 (by decide)
              go_simp; exact kk _ _ (by simp) HJ ⟨fun _ => Below.refl _ _, fun h => by cases h⟩ ⟨rfl, fun e => by cases e⟩
            · intro a w1 vs K bq Hb HJ HK HD HN kk
              obtain rfl : bq = false := by cases bq with | false => rfl | true => exact absurd (Hb rfl).2 (by decide)
              have HJ' : Below wr.heap.size wr w1 := HJ
              have e26 := (HD 0 _ 26 rfl rfl rfl).1.trans (HD 0 _ 26 rfl rfl rfl).2.1
              have cb := HC2.out w1 HJ'
              go_simp; exact kk _ _ (by simp) HJ ⟨fun _ => Below.refl _ _, fun h => by cases h⟩ ⟨rfl, fun e => by cases e⟩
            · intro a w1 vs K bq Hb HJ HK HD HN kk
              obtain rfl : bq = false := by cases bq with | false => rfl | true => exact absurd (Hb rfl).2 (by decide)
              have HJ' : Below wr.heap.size wr w1 := HJ
              have e5 := HK 5 (by decide)
              go_simp; exact kk _ _ (by simp) HJ ⟨fun _ => Below.refl _ _, fun h => by cases h⟩ ⟨rfl, fun e => by cases e⟩
            · intro a w1 vs K bq Hb HJ HK HD HN kk
              obtain rfl : bq = false := by cases bq with | false => rfl | true => exact absurd (Hb rfl).2 (by decide)
              have HJ' : Below wr.heap.size wr w1 := HJ
              have e3 := HK 3 (by decide)
              go_simp; exact kk _ _ (by simp) HJ ⟨fun _ => Below.refl _ _, fun h => by cases h⟩ ⟨rfl, fun e => by cases e⟩
            · intro a w1 vs K bq Hb HJ HK HD HN kk
              obtain rfl : bq = false := by cases bq with | false => rfl | true => exact absurd (Hb rfl).2 (by decide)
              have HJ' : Below wr.heap.size wr w1 := HJ
              have e29 := (HD 3 _ 29 rfl rfl rfl).1.trans (HD 3 _ 29 rfl rfl rfl).2.1
              have cb := HC2.out w1 HJ'
              go_simp; exact kk _ _ (by simp) HJ ⟨fun _ => Below.refl _ _, fun h => by cases h⟩ ⟨rfl, fun e => by cases e⟩
            · intro a w1 vs K bq Hb HJ HK HD HN kk
              obtain rfl : bq = false := by cases bq with | false => rfl | true => exact absurd (Hb rfl).2 (by decide)
              have HJ' : Below wr.heap.size wr w1 := HJ
              have e5 := HK 5 (by decide)
              go_simp; exact kk _ _ (by simp) HJ ⟨fun _ => Below.refl _ _, fun h => by cases h⟩ ⟨rfl, fun e => by cases e⟩
            · intro a w1 vs K bq Hb HJ HK HD HN kk
              obtain rfl : bq = false := by cases bq with | false => rfl | true => exact absurd (Hb rfl).2 (by decide)
              have HJ' : Below wr.heap.size wr w1 := HJ
              have e30 := (HD 4 _ 30 rfl rfl rfl).1.trans (HD 4 _ 30 rfl rfl rfl).2.1
              have e31 := (HD 5 _ 31 rfl rfl rfl).1.trans (HD 5 _ 31 rfl rfl rfl).2.1
              rw [HA2.out] at e30
              go_simp; exact kk _ _ (by simp) HJ ⟨fun _ => Below.refl _ _, fun h => by cases h⟩ ⟨rfl, fun e => by cases e⟩
            · intro a w1 vs K bq Hb HJ HK HD HN kk
              obtain rfl : bq = false := by cases bq with | false => rfl | true => exact absurd (Hb rfl).2 (by decide)
              have HJ' : Below wr.heap.size wr w1 := HJ
              have e32 := (HD 6 _ 32 rfl rfl rfl).1.trans (HD 6 _ 32 rfl rfl rfl).2.1
              have cp := HCP.out w1 HJ'
              go_simp; exact kk _ _ (by simp) HJ ⟨fun _ => Below.refl _ _, fun h => by cases h⟩ ⟨rfl, fun e => by cases e⟩
            · intro a w1 vs K bq Hb HJ HK HD HN kk
              obtain rfl : bq = false := by cases bq with | false => rfl | true => exact absurd (Hb rfl).2 (by decide)
              have HJ' : Below wr.heap.size wr w1 := HJ
              have e33 := (HD 7 _ 33 rfl rfl rfl).1.trans (HD 7 _ 33 rfl rfl rfl).2.1
              go_simp; exact kk _ _ (by simp) HJ ⟨fun _ => Below.refl _ _, fun h => by cases h⟩ ⟨rfl, fun e => by cases e⟩
            · intro a w1 vs K bq Hb HJ HK HD HN kk
              obtain rfl : bq = false := by cases bq with | false => rfl | true => exact absurd (Hb rfl).2 (by decide)
              have HJ' : Below wr.heap.size wr w1 := HJ
              have e2 := HK 2 (by decide)
              go_simp; exact kk _ _ (by simp) HJ ⟨fun _ => Below.refl _ _, fun h => by cases h⟩ ⟨rfl, fun e => by cases e⟩
            · intro a w1 vs K bq Hb HJ HK HD HN kk
              obtain rfl : bq = false := by cases bq with | false => rfl | true => exact absurd (Hb rfl).2 (by decide)
              have HJ' : Below wr.heap.size wr w1 := HJ
              have e35 := (HD 9 _ 35 rfl rfl rfl).1.trans (HD 9 _ 35 rfl rfl rfl).2.1
              have cv := HCV.out w1 HJ'
              go_simp; exact kk _ _ (by simp) HJ ⟨fun _ => Below.refl _ _, fun h => by cases h⟩ ⟨rfl, fun e => by cases e⟩
            · intro a w1 vs K bq Hb HJ HK HD HN kk
              obtain rfl : bq = false := by cases bq with | false => rfl | true => exact absurd (Hb rfl).2 (by decide)
              have HJ' : Below wr.heap.size wr w1 := HJ
              have e5 := HK 5 (by decide)
              go_simp; exact kk _ _ (by simp) HJ ⟨fun _ => Below.refl _ _, fun h => by cases h⟩ ⟨rfl, fun e => by cases e⟩
            · intro a w1 vs K bq Hb HJ HK HD HN kk
              obtain rfl : bq = false := by cases bq with | false => rfl | true => exact absurd (Hb rfl).2 (by decide)
              have HJ' : Below wr.heap.size wr w1 := HJ
              have e36 := (HD 10 _ 36 rfl rfl rfl).1.trans (HD 10 _ 36 rfl rfl rfl).2.1
              have e37 := (HD 11 _ 37 rfl rfl rfl).1.trans (HD 11 _ 37 rfl rfl rfl).2.1
              go_simp; exact kk _ _ (by simp) HJ ⟨fun _ => Below.refl _ _, fun h => by cases h⟩ ⟨rfl, fun e => by cases e⟩
            · intro a w1 vs K bq Hb HJ HK HD HN kk
              obtain rfl : bq = false := by cases bq with | false => rfl | true => exact absurd (Hb rfl).2 (by decide)
              have HJ' : Below wr.heap.size wr w1 := HJ
              have e38 := (HD 12 _ 38 rfl rfl rfl).1.trans (HD 12 _ 38 rfl rfl rfl).2.1
              go_simp; exact kk _ _ (by simp) HJ ⟨fun _ => Below.refl _ _, fun h => by cases h⟩ ⟨rfl, fun e => by cases e⟩
            · intro a w1 vs K bq Hb HJ HK HD HN kk
              obtain rfl : bq = false := by cases bq with | false => rfl | true => exact absurd (Hb rfl).2 (by decide)
              have HJ' : Below wr.heap.size wr w1 := HJ
              have e39 := (HD 13 _ 39 rfl rfl rfl).1.trans (HD 13 _ 39 rfl rfl rfl).2.1
              have ct := HCT.out w1 HJ'
              go_simp; exact kk _ _ (by simp) HJ ⟨fun _ => Below.refl _ _, fun h => by cases h⟩ ⟨rfl, fun e => by cases e⟩
            · intro a w1 vs K bq Hb HJ HK HD HN kk
              obtain rfl : bq = false := by cases bq with | false => rfl | true => exact absurd (Hb rfl).2 (by decide)
              have HJ' : Below wr.heap.size wr w1 := HJ
              have e34 := (HD 8 _ 34 rfl rfl rfl).1.trans (HD 8 _ 34 rfl rfl rfl).2.1
              have e40 := (HD 14 _ 40 rfl rfl rfl).1.trans (HD 14 _ 40 rfl rfl rfl).2.1
              go_simp; exact kk _ _ (by simp) HJ ⟨fun _ => Below.refl _ _, fun h => by cases h⟩ ⟨rfl, fun e => by cases e⟩
            · intro a w1 vs K bq Hb HJ HK HD HN kk
              obtain rfl : bq = false := by cases bq with | false => rfl | true => exact absurd (Hb rfl).2 (by decide)
              have HJ' : Below wr.heap.size wr w1 := HJ
              have e27 := (HD 1 _ 27 rfl rfl rfl).1.trans (HD 1 _ 27 rfl rfl rfl).2.1
              have e28 := (HD 2 _ 28 rfl rfl rfl).1.trans (HD 2 _ 28 rfl rfl rfl).2.1
              have e41 := (HD 15 _ 41 rfl rfl rfl).1.trans (HD 15 _ 41 rfl rfl rfl).2.1
              exact wpo_call 113 _ _ rfl #[.slice (R.a 2) nv (R.c 2), .int .i64 k, .int .i64 (if (S.p.valve k).travel < (S.at_ k).place + 1 then (S.p.valve k).travel else (S.at_ k).place + 1)] (by simp [Act.eval, e27, e28, e41]) (fun args w => by kernel_rfl)
                ((rwith_any w1 (R.a 2) nv (R.c 2) (fun j => ((S.mv k).at_ j).place) (HPL.out w1 HJ') hnv k hlt (if (S.p.valve k).travel < (S.at_ k).place + 1 then (S.p.valve k).travel else (S.at_ k).place + 1)).mono fun e w' ⟨A, c, he, hsl, hbb⟩ => ⟨_, he, kk _ _ (by simp) (Below.trans HJ' (hbb.mono HJ'.size)) ⟨fun _ => hbb, fun h => by cases h⟩ ⟨trivial, fun _ => ⟨A, c, rfl, hsl.mono fun b hb => ⟨Nat.le_trans HJ'.size hb.1, hb.2⟩⟩⟩⟩)
            · intro a w1 vs K bq Hb HJ HK HD HN kk
              obtain rfl : bq = false := by cases bq with | false => rfl | true => exact absurd (Hb rfl).2 (by decide)
              have HJ' : Below wr.heap.size wr w1 := HJ
              have e3 := HK 3 (by decide)
              go_simp; exact kk _ _ (by simp) HJ ⟨fun _ => Below.refl _ _, fun h => by cases h⟩ ⟨rfl, fun e => by cases e⟩
            · intro a w1 vs K bq Hb HJ HK HD HN kk
              obtain rfl : bq = false := by cases bq with | false => rfl | true => exact absurd rfl (Hb rfl).1
              have HJ' : Below wr.heap.size wr w1 := HJ
              have e43 := (HD 17 _ 43 rfl rfl rfl).1.trans (HD 17 _ 43 rfl rfl rfl).2.1
              obtain ⟨q16, r16⟩ := HD 16 _ 42 rfl rfl rfl
              obtain ⟨A, c, r1, r2⟩ := r16.2 rfl
              have e42 := q16.trans r1
              have hb1 := HBX.out.below HJ' HLT.out
              have cc : w1.cell? ⟨w.heap.size + 1, 2, none⟩ = some (.slice (R.a 2) nv (R.c 2)) := (hb1.cell 2).trans (HG2.out)
              have ff := hb1.free 2
              have hres := HSTEP.out w1 HJ' A c r2
              clear hb1 HSTEP HPL HBX HG2 r2
              go_simp
              exact kk undef _ (by simp) hres ⟨fun h => absurd rfl h, fun _ => Only.setCell _ _ _ _⟩ ⟨trivial, fun e => by cases e⟩
          · intro vs w2 hw2 hrr
            have hM2 : MvR w x S w2 (k + 1) := hw2
            have HM2 := Lib.hid hM2
            obtain ⟨b4, o4, c4, b3, o3, c3, l1, l2, l3, l4⟩ := hM2.look HNV.out hlt
            rw [HST.out] at l2
            rw [HWT.out] at l4
            clear hrr hw2 hM2 HSTEP HPL HC2 HCP HCV HCT
            simp only [putAll, Act.put]
            go_wp2_with fail
            go_roundw
            case rel => exact ⟨k + 1, by omega, by go_num, HM2⟩
            case measure => simp [intOf]; omega
        | false =>
          have HSTEP : Hid (∀ w1, Below wr.heap.size wr w1 → ∀ A c, SlD w1 (fun b => wr.heap.size ≤ b ∧ b < w1.heap.size) 1 A nv (fun j _ => .int .i64 (if j = k then if (S.at_ k).place - 1 < 0 then 0 else (S.at_ k).place - 1 else ((S.mv k).at_ j).place)) → MvS w x S wr (w1.setCell ⟨w.heap.size + 1, 2, none⟩ (.slice A nv c)) (k + 1)) := Lib.hid fun w1 hw1 A c hA =>
            MvR.step HBX.out HRB.out HB0.out HB2.out HP.out HBB.out HSZ.out hw1 HNV.out A c _ (by unfold move1; rw [hst, hwt]; exact (max_go _ _).symm) hA
          rw [hst] at s1c
          rw [hwt] at w1c
          clear hst hwt
          go_wp2_with fail
          refine wp_region_stepsM (by kernel_rfl) (by kernel_rfl) 12 (by decide) (fun bq w1 => if bq = true then MvS w x S wr w1 (k + 1) else Below wr.heap.size wr w1) (fun j w1 w2 => (j ≠ 12 → Below w1.heap.size w1 w2) ∧ (j = 12 → Only (w.heap.size + 1) w1 w2))
            (fun ix u d w1 => (match ix with
              | 0 => u = .pointer (some ⟨w.heap.size + 1, 2, none⟩)
              | 1 => u = .slice (R.a 2) nv (R.c 2)
              | 2 => u = .int .i64 k
              | 3 => u = .pointer (some ⟨w.heap.size + 1, 2, none⟩)
              | 4 => u = .slice (R.a 2) nv (R.c 2)
              | 5 => u = .int .i64 k
              | 6 => u = .pointer (some ⟨bp, op + k, none⟩)
              | 7 => u = .int .i64 (S.at_ k).place
              | 8 => u = .int .i64 ((S.at_ k).place - 1)
              | 9 => u = .int .i64 (if (S.at_ k).place - 1 < 0 then 0 else (S.at_ k).place - 1)
              | 10 => True
              | 11 => u = .pointer (some ⟨w.heap.size + 1, 2, none⟩)
              | _ => True) ∧ (ix = 10 → ∃ A c, u = .slice A nv c ∧ SlD w1 (fun b => wr.heap.size ≤ b ∧ b < w1.heap.size) 1 A nv (fun j _ => .int .i64 (if j = k then if (S.at_ k).place - 1 < 0 then 0 else (S.at_ k).place - 1 else ((S.mv k).at_ j).place)))) (Below.refl _ _).drew (by rintro i j hij _ u d w1 w2 ⟨hr1, hr2⟩ ⟨hE1, hE2⟩; refine ⟨hr1, fun e => ?_⟩; obtain ⟨A, c, e1, e2⟩ := hr2 e; exact ⟨A, c, e1, new_stays e2 (if hj : j = 12 then .inr (hE2 hj) else .inl (hE1 hj)) HLT.out⟩) ?_ ?_
          · refine ⟨?_, ?_, ?_, ?_, ?_, ?_, ?_, ?_, ?_, ?_, ?_, ?_, ?_, trivial⟩
            · intro a w1 vs K bq Hb HJ HK HD HN kk
              obtain rfl : bq = false := by cases bq with | false => rfl | true => exact absurd (Hb rfl).2 (by decide)
              have HJ' : Below wr.heap.size wr w1 := HJ
              have e3 := HK 3 (by decide)
              go_simp; exact kk _ _ (by simp) HJ ⟨fun _ => Below.refl _ _, fun h => by cases h⟩ ⟨rfl, fun e => by cases e⟩
            · intro a w1 vs K bq Hb HJ HK HD HN kk
              obtain rfl : bq = false := by cases bq with | false => rfl | true => exact absurd (Hb rfl).2 (by decide)
              have HJ' : Below wr.heap.size wr w1 := HJ
              have e58 := (HD 0 _ 58 rfl rfl rfl).1.trans (HD 0 _ 58 rfl rfl rfl).2.1
              have cb := HC2.out w1 HJ'
              go_simp; exact kk _ _ (by simp) HJ ⟨fun _ => Below.refl _ _, fun h => by cases h⟩ ⟨rfl, fun e => by cases e⟩
            · intro a w1 vs K bq Hb HJ HK HD HN kk
              obtain rfl : bq = false := by cases bq with | false => rfl | true => exact absurd (Hb rfl).2 (by decide)
              have HJ' : Below wr.heap.size wr w1 := HJ
              have e5 := HK 5 (by decide)
              go_simp; exact kk _ _ (by simp) HJ ⟨fun _ => Below.refl _ _, fun h => by cases h⟩ ⟨rfl, fun e => by cases e⟩
            · intro a w1 vs K bq Hb HJ HK HD HN kk
              obtain rfl : bq = false := by cases bq with | false => rfl | true => exact absurd (Hb rfl).2 (by decide)
              have HJ' : Below wr.heap.size wr w1 := HJ
              have e3 := HK 3 (by decide)
              go_simp; exact kk _ _ (by simp) HJ ⟨fun _ => Below.refl _ _, fun h => by cases h⟩ ⟨rfl, fun e => by cases e⟩
            · intro a w1 vs K bq Hb HJ HK HD HN kk
              obtain rfl : bq = false := by cases bq with | false => rfl | true => exact absurd (Hb rfl).2 (by decide)
              have HJ' : Below wr.heap.size wr w1 := HJ
              have e61 := (HD 3 _ 61 rfl rfl rfl).1.trans (HD 3 _ 61 rfl rfl rfl).2.1
              have cb := HC2.out w1 HJ'
              go_simp; exact kk _ _ (by simp) HJ ⟨fun _ => Below.refl _ _, fun h => by cases h⟩ ⟨rfl, fun e => by cases e⟩
            · intro a w1 vs K bq Hb HJ HK HD HN kk
              obtain rfl : bq = false := by cases bq with | false => rfl | true => exact absurd (Hb rfl).2 (by decide)
              have HJ' : Below wr.heap.size wr w1 := HJ
              have e5 := HK 5 (by decide)
              go_simp; exact kk _ _ (by simp) HJ ⟨fun _ => Below.refl _ _, fun h => by cases h⟩ ⟨rfl, fun e => by cases e⟩
            · intro a w1 vs K bq Hb HJ HK HD HN kk
              obtain rfl : bq = false := by cases bq with | false => rfl | true => exact absurd (Hb rfl).2 (by decide)
              have HJ' : Below wr.heap.size wr w1 := HJ
              have e62 := (HD 4 _ 62 rfl rfl rfl).1.trans (HD 4 _ 62 rfl rfl rfl).2.1
              have e63 := (HD 5 _ 63 rfl rfl rfl).1.trans (HD 5 _ 63 rfl rfl rfl).2.1
              rw [HA2.out] at e62
              go_simp; exact kk _ _ (by simp) HJ ⟨fun _ => Below.refl _ _, fun h => by cases h⟩ ⟨rfl, fun e => by cases e⟩
            · intro a w1 vs K bq Hb HJ HK HD HN kk
              obtain rfl : bq = false := by cases bq with | false => rfl | true => exact absurd (Hb rfl).2 (by decide)
              have HJ' : Below wr.heap.size wr w1 := HJ
              have e64 := (HD 6 _ 64 rfl rfl rfl).1.trans (HD 6 _ 64 rfl rfl rfl).2.1
              have cp := HCP.out w1 HJ'
              go_simp; exact kk _ _ (by simp) HJ ⟨fun _ => Below.refl _ _, fun h => by cases h⟩ ⟨rfl, fun e => by cases e⟩
            · intro a w1 vs K bq Hb HJ HK HD HN kk
              obtain rfl : bq = false := by cases bq with | false => rfl | true => exact absurd (Hb rfl).2 (by decide)
              have HJ' : Below wr.heap.size wr w1 := HJ
              have e65 := (HD 7 _ 65 rfl rfl rfl).1.trans (HD 7 _ 65 rfl rfl rfl).2.1
              go_simp; exact kk _ _ (by simp) HJ ⟨fun _ => Below.refl _ _, fun h => by cases h⟩ ⟨rfl, fun e => by cases e⟩
            · intro a w1 vs K bq Hb HJ HK HD HN kk
              obtain rfl : bq = false := by cases bq with | false => rfl | true => exact absurd (Hb rfl).2 (by decide)
              have HJ' : Below wr.heap.size wr w1 := HJ
              have e66 := (HD 8 _ 66 rfl rfl rfl).1.trans (HD 8 _ 66 rfl rfl rfl).2.1
              go_simp; exact kk _ _ (by simp) HJ ⟨fun _ => Below.refl _ _, fun h => by cases h⟩ ⟨rfl, fun e => by cases e⟩
            · intro a w1 vs K bq Hb HJ HK HD HN kk
              obtain rfl : bq = false := by cases bq with | false => rfl | true => exact absurd (Hb rfl).2 (by decide)
              have HJ' : Below wr.heap.size wr w1 := HJ
              have e59 := (HD 1 _ 59 rfl rfl rfl).1.trans (HD 1 _ 59 rfl rfl rfl).2.1
              have e60 := (HD 2 _ 60 rfl rfl rfl).1.trans (HD 2 _ 60 rfl rfl rfl).2.1
              have e67 := (HD 9 _ 67 rfl rfl rfl).1.trans (HD 9 _ 67 rfl rfl rfl).2.1
              exact wpo_call 113 _ _ rfl #[.slice (R.a 2) nv (R.c 2), .int .i64 k, .int .i64 (if (S.at_ k).place - 1 < 0 then 0 else (S.at_ k).place - 1)] (by simp [Act.eval, e59, e60, e67]) (fun args w => by kernel_rfl)
                ((rwith_any w1 (R.a 2) nv (R.c 2) (fun j => ((S.mv k).at_ j).place) (HPL.out w1 HJ') hnv k hlt (if (S.at_ k).place - 1 < 0 then 0 else (S.at_ k).place - 1)).mono fun e w' ⟨A, c, he, hsl, hbb⟩ => ⟨_, he, kk _ _ (by simp) (Below.trans HJ' (hbb.mono HJ'.size)) ⟨fun _ => hbb, fun h => by cases h⟩ ⟨trivial, fun _ => ⟨A, c, rfl, hsl.mono fun b hb => ⟨Nat.le_trans HJ'.size hb.1, hb.2⟩⟩⟩⟩)
            · intro a w1 vs K bq Hb HJ HK HD HN kk
              obtain rfl : bq = false := by cases bq with | false => rfl | true => exact absurd (Hb rfl).2 (by decide)
              have HJ' : Below wr.heap.size wr w1 := HJ
              have e3 := HK 3 (by decide)
              go_simp; exact kk _ _ (by simp) HJ ⟨fun _ => Below.refl _ _, fun h => by cases h⟩ ⟨rfl, fun e => by cases e⟩
            · intro a w1 vs K bq Hb HJ HK HD HN kk
              obtain rfl : bq = false := by cases bq with | false => rfl | true => exact absurd rfl (Hb rfl).1
              have HJ' : Below wr.heap.size wr w1 := HJ
              have e69 := (HD 11 _ 69 rfl rfl rfl).1.trans (HD 11 _ 69 rfl rfl rfl).2.1
              obtain ⟨q16, r16⟩ := HD 10 _ 68 rfl rfl rfl
              obtain ⟨A, c, r1, r2⟩ := r16.2 rfl
              have e68 := q16.trans r1
              have hb1 := HBX.out.below HJ' HLT.out
              have cc : w1.cell? ⟨w.heap.size + 1, 2, none⟩ = some (.slice (R.a 2) nv (R.c 2)) := (hb1.cell 2).trans (HG2.out)
              have ff := hb1.free 2
              have hres := HSTEP.out w1 HJ' A c r2
              clear hb1 HSTEP HPL HBX HG2 r2
              go_simp
              exact kk undef _ (by simp) hres ⟨fun h => absurd rfl h, fun _ => Only.setCell _ _ _ _⟩ ⟨trivial, fun e => by cases e⟩
          · intro vs w2 hw2 hrr
            have HM2 : Hid (MvR w x S w2 (k + 1)) := Lib.hid hw2
            clear hrr hw2 HSTEP HPL HC2 HCP HCV HCT
            simp only [putAll, Act.put]
            go_wp2_with fail
            go_roundw
            case rel => exact ⟨k + 1, by omega, by go_num, HM2⟩
            case measure => simp [intOf]; omega
    · obtain rfl : k = nv := by omega
      have HQ := Lib.hid hb1
      have HQ5 := Lib.hid hb2
      have HR := Lib.hid hr
      have HBB := Lib.hid hb
      clear hb1 hr hb0 hb2 hp hb
      have hfin : S.mv k = { S with at_ := movedB S.p S.at_ S.stuck } := by unfold Sys.mv movedB; rw [← HNV.out]
      have HF := Lib.hid hfin
      clear hfin
      go_wp2_with (first | (refine wpLoadAt rfl 53 _ rfl (w.heap.size + 1) 0 rfl (SysA R (S.mv k)) _ (fun j u hj => by rw [Nat.zero_add]; exact (HQ.out.cell j).trans hj) und_state rfl info_state ?_) | (refine wpStoreAt rfl rfl 53 _ _ rfl (w.heap.size + 1 + 1) 0 rfl (SysA R (S.mv k)) rfl 53 _ HQ5.out (by show 0 + 9 ≤ 9; omega) (refA_one _ _ _ _) info_state ?_; intro wf hkf hof))
      rw [← HF.out]
      refine bodyPost_ret (results_cellS rfl _ _ (w.heap.size + 1 + 1) 53 (SysA R (S.mv k)) _ rfl (by rw [splA_all _ _ (by rw [refA_size, refA_size])] at hkf; exact hkf) und_state rfl info_state) rfl ?_
      exact ⟨R, rfl, (HR.out.only hof (by omega) (by omega)).at_, HBB.out.trans (hof.below (by omega))⟩
end Go.Proofs.YtogobjmmgjfjjaaGreat
/- What is proved: a contract of ullageref07.Begin. Conditions: the plant lies in memory; its lists are short. -/
namespace Go.Proofs.YtogobjmmgjfjjaaGreat
open Go.RowKit

def zerosR (z : Value) (n : Nat) : Array Value := (Array.range n).map fun _ => z
theorem made_zeros (z : Value) (n : Nat) : madeCells #[z] (n * 1) = zerosR z n := by
  apply Array.ext_getElem?
  intro m
  unfold madeCells zerosR
  simp [Nat.mod_one]
def lenN (nt nv nl : Nat) : Nat → Nat
  | 2 => nv
  | 3 => nv
  | 4 => nv
  | 6 => nl
  | _ => nt
theorem lenN_of (p : PlantD) (j : Nat) : lenR p j = lenN p.tanks.length p.valves.length p.lines.length j := by
  by_cases h2 : j = 2
  · subst h2; rfl
  by_cases h3 : j = 3
  · subst h3; rfl
  by_cases h4 : j = 4
  · subst h4; rfl
  by_cases h6 : j = 6
  · subst h6; rfl
  unfold lenR lenN; split <;> simp_all
def bgX (B : Nat → Nat) (nt nv nl : Nat) : RX := ⟨fun j => some ⟨B j, 0, none⟩, fun j => lenN nt nv nl j⟩
/-- Which operation makes list j. -/
def mI : Nat → Nat
  | 0 => 1
  | 1 => 3
  | 2 => 5
  | 3 => 7
  | 4 => 9
  | 5 => 11
  | 6 => 15
  | 7 => 17
  | _ => 19
def bgB (d : Nat → Value) (j : Nat) : Nat := blk (d (mI j))
theorem built_state (R : RX) (nt nv nl : Nat) :
    Tryz.prog.built 53 [(0, .slice (R.a 0) nt (R.c 0)), (1, .slice (R.a 1) nt (R.c 1)), (2, .slice (R.a 2) nv (R.c 2)), (3, .slice (R.a 3) nv (R.c 3)), (4, .slice (R.a 4) nv (R.c 4)), (5, .slice (R.a 5) nt (R.c 5)), (6, .slice (R.a 6) nl (R.c 6)), (7, .slice (R.a 7) nt (R.c 7)), (8, .slice (R.a 8) nt (R.c 8))] = some (refA R nt nv nl) := by kernel_rfl
def ownK (j : Nat) : Bool := j == 1 || j == 3 || j == 5 || j == 7 || j == 9 || j == 11 || j == 15 || j == 17 || j == 19 || j == 21
/-- What holds while the first state is built: the new blocks are apart. -/
structure BgJ (W : World) (dn : Nat → Bool) (vs : Nat → Value) (w1 : World) : Prop where
  below : Below W.heap.size W w1
  own : ∀ j, ownK j = true → dn j = true → W.heap.size ≤ blk (vs j) ∧ blk (vs j) < w1.heap.size
  ne : ∀ i j, ownK i = true → ownK j = true → dn i = true → dn j = true → i ≠ j → blk (vs i) ≠ blk (vs j)
theorem BgJ.step {W w1 w2 : World} {dn : Nat → Bool} {vs : Nat → Value} (h : BgJ W dn vs w1) (i : Nat) (v : Value) (hb : Below w1.heap.size w1 w2) (hv : ownK i = true → w1.heap.size ≤ blk v ∧ blk v < w2.heap.size) :
    BgJ W (updB dn i) (updV vs i v) w2 := by
  have hs := h.below.size
  have hs2 := hb.size
  refine ⟨h.below.trans (hb.mono hs), fun j hj hd => ?_, fun j l hj hl hd hd2 hne => ?_⟩
  · unfold updV; unfold updB at hd
    by_cases e : j = i
    · subst e; rw [if_pos rfl]; have := hv hj; omega
    · rw [if_neg e] at hd ⊢; have := h.own j hj hd; omega
  · unfold updV; unfold updB at hd hd2
    by_cases e : j = i
    · subst e
      rw [if_neg (Ne.symm hne)] at hd2
      rw [if_pos rfl, if_neg (Ne.symm hne)]
      have := hv hj; have := h.own l hl hd2; omega
    · rw [if_neg e] at hd ⊢
      by_cases e2 : l = i
      · subst e2; rw [if_pos rfl]; have := hv hl; have := h.own j hj hd; omega
      · rw [if_neg e2] at hd2 ⊢; exact h.ne j l hj hl hd hd2 hne
theorem BgJ.only {W w1 w2 : World} {dn : Nat → Bool} {vs : Nat → Value} (h : BgJ W dn vs w1) (h21 : dn 21 = true) (ho : Only (blk (vs 21)) w1 w2) : BgJ W (updB dn 22) (updV vs 22 undef) w2 := by
  have h0 := h.own 21 rfl h21
  have hne : ∀ j, ownK j = true → j ≠ 22 := by rintro j hj rfl; cases hj
  refine ⟨h.below.trans (ho.below h0.1), fun j hj hd => ?_, fun j l hj hl hd hd2 hjl => ?_⟩
  · unfold updV; unfold updB at hd
    rw [if_neg (hne j hj)] at hd ⊢; rw [ho.size]; exact h.own j hj hd
  · unfold updV; unfold updB at hd hd2
    rw [if_neg (hne j hj)] at hd ⊢; rw [if_neg (hne l hl)] at hd2 ⊢; exact h.ne j l hj hl hd hd2 hjl
def BgE (j : Nat) (w1 w2 : World) : Prop :=
  (j ≠ 22 → Below w1.heap.size w1 w2) ∧ (Below w1.heap.size w1 w2 ∨ ∃ gb cs', Only gb w1 w2 ∧ (∃ cs, Bk w1 gb 53 cs) ∧ Bk w2 gb 53 cs' ∧ cs'.size = 9)
theorem BgE.of {j : Nat} {w1 w2 : World} (h : Below w1.heap.size w1 w2) : BgE j w1 w2 := ⟨fun _ => h, .inl h⟩
theorem BgE.bk {j : Nat} {w1 w2 : World} {g : Nat} {T : TypeId} {cs : Array Value} (h : BgE j w1 w2) (hb : Bk w1 g T cs) (hT : T ≠ 53) : Bk w2 g T cs := by
  rcases h.2 with h | ⟨gb, cs', ho, ⟨cs2, h2⟩, _, _⟩
  · exact hb.below h hb.lt
  · exact hb.only ho (hb.ne h2 hT)
theorem BgE.gb {j : Nat} {w1 w2 : World} {g : Nat} {cs : Array Value} (h : BgE j w1 w2) (hb : Bk w1 g 53 cs) (hs : cs.size = 9) : ∃ cs', cs'.size = 9 ∧ Bk w2 g 53 cs' := by
  rcases h.2 with h | ⟨gb, cs', ho, _, h3, h4⟩
  · exact ⟨cs, hs, hb.below h hb.lt⟩
  · by_cases e : g = gb
    · subst e; exact ⟨cs', h4, h3⟩
    · exact ⟨cs, hs, hb.only ho e⟩
/-- The lists of a state that is being made. -/
def tyR (j : Nat) : TypeId := if j = 3 ∨ j = 4 then 4 else 3
theorem tyR_ne (j : Nat) : tyR j ≠ 53 := by unfold tyR; split <;> decide
def lisR (n : Nat) (f : Nat → Value) : Array Value := (Array.range n).map f
theorem lisR_get (n : Nat) (f : Nat → Value) (i : Nat) (hi : i < n) : (lisR n f)[i]? = some (f i) := by unfold lisR; simp [hi]
theorem lisR_set (n : Nat) (f : Nat → Value) (k : Nat) (v : Value) : (lisR n f).setIfInBounds k v = lisR n fun i => if i = k then v else f i := by
  apply Array.ext_getElem?
  intro m
  rw [Array.getElem?_setIfInBounds]
  unfold lisR
  by_cases hm : m < n
  · by_cases e : k = m
    · subst e; simp [hm]
    · simp [hm, e, Ne.symm e]
  · by_cases e : k = m
    · subst e; simp [hm]
    · simp [hm, e]
theorem mI_own : ∀ j, j < 9 → ownK (mI j) = true ∧ mI j < 23 := by decide
theorem mI_inj : ∀ i, i < 9 → ∀ j, j < 9 → i ≠ j → mI i ≠ mI j := by decide
structure BgL (w : World) (lo : Nat) (nt nv nl : Nat) (B : Nat → Nat) (sb : Nat) (G : Nat → Nat → Value) : Prop where
  bk : ∀ j, j < 9 → Bk w (B j) (tyR j) (lisR (lenN nt nv nl j) (G j))
  ne : ∀ i j, i < 9 → j < 9 → i ≠ j → B i ≠ B j
  low : ∀ j, j < 9 → lo ≤ B j
  st : Bk w sb 53 (refA (bgX B nt nv nl) nt nv nl)
  slo : lo ≤ sb
theorem BgL.keep {w w' : World} {lo nt nv nl sb : Nat} {B : Nat → Nat} {G : Nat → Nat → Value} (h : BgL w lo nt nv nl B sb G) (hh : w'.heap = w.heap) : BgL w' lo nt nv nl B sb G :=
  ⟨fun j hj => by have := h.bk j hj; unfold Bk at this ⊢; rw [hh]; exact this, h.ne, h.low, by have := h.st; unfold Bk at this ⊢; rw [hh]; exact this, h.slo⟩
theorem BgL.set {w : World} {lo nt nv nl sb : Nat} {B : Nat → Nat} {G : Nat → Nat → Value} (h : BgL w lo nt nv nl B sb G) (j k : Nat) (v : Value) (hj : j < 9) :
    BgL (w.setCell ⟨B j, k, none⟩ v) lo nt nv nl B sb (fun j' i => if j' = j ∧ i = k then v else G j' i) := by
  have hO := Only.setCell w (B j) k v
  refine ⟨fun j' hj' => ?_, h.ne, h.low, h.st.only hO (fun e => ((h.bk j hj).ne h.st (tyR_ne j)) e.symm), h.slo⟩
  by_cases e : j' = j
  · subst e
    have := (h.bk j' hj').set k v
    rw [lisR_set] at this
    simpa using this
  · have := (h.bk j' hj').only hO (h.ne j' j hj' hj e)
    simpa [e] using this
theorem BgL.cell {w : World} {lo nt nv nl sb : Nat} {B : Nat → Nat} {G : Nat → Nat → Value} (h : BgL w lo nt nv nl B sb G) (j k : Nat) (hj : j < 9) (hk : k < lenN nt nv nl j) : w.cell? ⟨B j, k, none⟩ = some (G j k) := ((h.bk j hj).cell k).trans (lisR_get _ _ _ hk)
theorem BgL.ref {w : World} {lo sb : Nat} {p : PlantD} {B : Nat → Nat} {G : Nat → Nat → Value} (h : BgL w lo p.tanks.length p.valves.length p.lines.length B sb G) (hs : Short p) (S : Sys) (hp : S.p = p) (hv : ∀ j, j < 9 → ∀ i, i < lenR p j → G j i = valR S j i) :
    ∀ j, j < 9 → Sl w w.heap.size 1 ((bgX B p.tanks.length p.valves.length p.lines.length).a j) (lenR S.p j) fun i _ => valR S j i := fun j hj => by
  subst hp
  refine ⟨?_, fun _ => ⟨B j, 0, rfl, (h.bk j hj).lt, fun i hi k hk => ?_⟩⟩
  · obtain ⟨h1, h2, h3⟩ := hs
    unfold lenR; split <;> omega
  · obtain rfl : k = 0 := by omega
    rw [show 0 + i * 1 + 0 = i from by omega, h.cell j i hj (by rw [← lenN_of]; exact hi), hv j hj i hi]
/-- The first state, the first k valves done. -/
def begS (p : PlantD) (k : Nat) : Sys := { startB p with at_ := firstK p k }
theorem begS_all (p : PlantD) : begS p p.valves.length = startB p := rfl
theorem begS_keep (p : PlantD) (k : Nat) (h : (p.valve k).opn = false) : begS p (k + 1) = begS p k := by unfold begS; rw [firstK_keep p k h]
theorem begS_set (p : PlantD) (k : Nat) (h : (p.valve k).opn = true) : ∀ j, j < 9 → ∀ i, (if j = 3 ∧ i = k then Value.bool true else if j = 2 ∧ i = k then .int .i64 (p.valve k).travel else valR (begS p k) j i) = valR (begS p (k + 1)) j i := by
  intro j hj i
  unfold begS
  rw [firstK_set p k h]
  match j, hj with
  | 0, _ => rfl
  | 1, _ => rfl
  | 2, _ => by_cases e : i = k <;> simp [valR, e]
  | 3, _ => by_cases e : i = k <;> simp [valR, e]
  | 4, _ => rfl
  | 5, _ => rfl
  | 6, _ => rfl
  | 7, _ => rfl
  | 8, _ => rfl
theorem begS_zero (p : PlantD) (j : Nat) (hj : j < 9) : (fun i => valR (begS p 0) j i) = fun _ => if j = 3 ∨ j = 4 then Value.bool false else .int .i64 0 := by
  unfold begS
  rw [firstK_zero]
  funext i
  match j, hj with
  | 0, _ => rfl
  | 1, _ => rfl
  | 2, _ => rfl
  | 3, _ => rfl
  | 4, _ => rfl
  | 5, _ => rfl
  | 6, _ => rfl
  | 7, _ => rfl
  | 8, _ => rfl
def BgR (w : World) (x : PV) (p : PlantD) (nt nv nl : Nat) (B : Nat → Nat) (sb : Nat) (wr : World) (k : Nat) : Prop :=
  BgL wr (w.heap.size + 2) nt nv nl B sb (valR (begS p k)) ∧ Bk wr w.heap.size 27 (plantA x p) ∧ Bk wr (w.heap.size + 1) 53 (refA nilR 0 0 0) ∧ PlantAt wr w.heap.size x p ∧ Below w.heap.size w wr
theorem BgL.congr {w : World} {lo nt nv nl sb : Nat} {B : Nat → Nat} {G G' : Nat → Nat → Value} (h : BgL w lo nt nv nl B sb G) (hG : ∀ j, j < 9 → ∀ i, G j i = G' j i) : BgL w lo nt nv nl B sb G' :=
  ⟨fun j hj => by rw [← show G j = G' j from funext fun i => hG j hj i]; exact h.bk j hj, h.ne, h.low, h.st, h.slo⟩
theorem BgR.step {w : World} {x : PV} {p : PlantD} {nt nv nl : Nat} {B : Nat → Nat} {sb : Nat} {wr : World} {k : Nat} (h : BgR w x p nt nv nl B sb wr k)
    (hE : ∀ j, j < 9 → ∀ i, (if j = 3 ∧ i = k then Value.bool true else if j = 2 ∧ i = k then .int .i64 (p.valve k).travel else valR (begS p k) j i) = valR (begS p (k + 1)) j i) :
    BgR w x p nt nv nl B sb ((wr.setCell ⟨B 2, k, none⟩ (.int .i64 (p.valve k).travel)).setCell ⟨B 3, k, none⟩ (.bool true)).drew (k + 1) := by
  obtain ⟨h1, h2, h3, h4, h5⟩ := h
  have hl := (((h1.set 2 k (.int .i64 (p.valve k).travel) (by omega)).set 3 k (.bool true) (by omega)).congr hE).keep (w' := ((wr.setCell ⟨B 2, k, none⟩ (.int .i64 (p.valve k).travel)).setCell ⟨B 3, k, none⟩ (.bool true)).drew) rfl
  have q2 := h1.low 2 (by omega)
  have q3 := h1.low 3 (by omega)
  have hb : Below (w.heap.size + 2) wr ((wr.setCell ⟨B 2, k, none⟩ (.int .i64 (p.valve k).travel)).setCell ⟨B 3, k, none⟩ (.bool true)).drew := ((((Below.refl _ _).setCell (p := ⟨B 2, k, none⟩) q2 _).setCell (p := ⟨B 3, k, none⟩) q3 _)).drew
  exact ⟨hl, h2.below hb (by omega), h3.below hb (by omega), h4.below (hb.mono (by omega)), h5.trans (hb.mono (by omega))⟩

set_option maxRecDepth 100000 in
set_option maxHeartbeats 4000000 in
theorem refBegin_any [Exc] (w : World) (x : PV) (p : PlantD) (h : PlantAt w w.heap.size x p) (hs : Short p) (ht : Exc.top ≤ w.heap.size) :
    Calls Tryz.prog 23 #[.agg (plantA x p)] w (RefOne w (startB p)) := by
  have HT := Lib.hid ht
  clear ht
  obtain ⟨W, hW⟩ : ∃ W, W = (w.alloc (.cells (plantA x p) 27)).alloc (.cells (refA nilR 0 0 0) 53) := ⟨_, rfl⟩
  have hbW : Below w.heap.size w W := by rw [hW]; exact ((Below.refl _ _).alloc (Nat.le_refl _) _).alloc (by simp) _
  have hWs : W.heap.size = w.heap.size + 2 := by rw [hW]; simp
  have hb0 : Bk W w.heap.size 27 (plantA x p) := by rw [hW]; exact (Bk.new _ _ _).alloc _
  have hb1 : Bk W (w.heap.size + 1) 53 (refA nilR 0 0 0) := by rw [hW]; exact Bk.newAt _ _ _ _ (by simp)
  have HW := Lib.hid hW
  have HB := Lib.hid hbW
  have HP := Lib.hid hb0
  have HQ := Lib.hid hb1
  have HPL := Lib.hid (h.below hbW)
  have HS := Lib.hid hs
  obtain ⟨hs1, hs2, hs3⟩ := hs
  obtain ⟨nt, hnt⟩ : ∃ nt, nt = p.tanks.length := ⟨_, rfl⟩
  obtain ⟨nv, hnv⟩ : ∃ nv, nv = p.valves.length := ⟨_, rfl⟩
  obtain ⟨nl, hnl⟩ : ∃ nl, nl = p.lines.length := ⟨_, rfl⟩
  rw [← hnt] at hs1
  rw [← hnv] at hs2
  rw [← hnl] at hs3
  have HNN := Lib.hid (⟨hnt, hnv, hnl⟩ : nt = p.tanks.length ∧ nv = p.valves.length ∧ nl = p.lines.length)
  have c0 : W.cell? ⟨w.heap.size, 0, none⟩ = some (.slice x.tA nt x.tc) := by rw [hnt]; exact hb0.cell 0
  have c1 : W.cell? ⟨w.heap.size, 1, none⟩ = some (.slice x.vA nv x.vc) := by rw [hnv]; exact hb0.cell 1
  simp only [nilR, refA, plantA] at HW
  clear h hW hbW hb0 hb1 hnt hnv hnl
  dsimp only [plantA]
  go_enter Tryz.func23, Tryz.ntmps23
  go_wp2_with fail
  rw [← HW.out]
  go_quiet (fail)
  go_wp2_with fail
  refine wp_region_stepsJ (by kernel_rfl) (by kernel_rfl) (BgJ W) BgE
    (fun i u d w1 => match i with
      | 0 => u = .int .i64 nt
      | 1 => u = .slice (some ⟨blk u, 0, none⟩) nt nt ∧ Bk w1 (blk u) 3 (zerosR (.int .i64 0) nt)
      | 2 => u = .int .i64 nt
      | 3 => u = .slice (some ⟨blk u, 0, none⟩) nt nt ∧ Bk w1 (blk u) 3 (zerosR (.int .i64 0) nt)
      | 4 => u = .int .i64 nv
      | 5 => u = .slice (some ⟨blk u, 0, none⟩) nv nv ∧ Bk w1 (blk u) 3 (zerosR (.int .i64 0) nv)
      | 6 => u = .int .i64 nv
      | 7 => u = .slice (some ⟨blk u, 0, none⟩) nv nv ∧ Bk w1 (blk u) 4 (zerosR (.bool false) nv)
      | 8 => u = .int .i64 nv
      | 9 => u = .slice (some ⟨blk u, 0, none⟩) nv nv ∧ Bk w1 (blk u) 4 (zerosR (.bool false) nv)
      | 10 => u = .int .i64 nt
      | 11 => u = .slice (some ⟨blk u, 0, none⟩) nt nt ∧ Bk w1 (blk u) 3 (zerosR (.int .i64 0) nt)
      | 12 => u = .pointer (some ⟨w.heap.size, 2, none⟩)
      | 13 => u = .slice x.lA nl x.lc
      | 14 => u = .int .i64 nl
      | 15 => u = .slice (some ⟨blk u, 0, none⟩) nl nl ∧ Bk w1 (blk u) 3 (zerosR (.int .i64 0) nl)
      | 16 => u = .int .i64 nt
      | 17 => u = .slice (some ⟨blk u, 0, none⟩) nt nt ∧ Bk w1 (blk u) 3 (zerosR (.int .i64 0) nt)
      | 18 => u = .int .i64 nt
      | 19 => u = .slice (some ⟨blk u, 0, none⟩) nt nt ∧ Bk w1 (blk u) 3 (zerosR (.int .i64 0) nt)
      | 20 => u = .agg (refA (bgX (bgB d) nt nv nl) nt nv nl)
      | 21 => u = .pointer (some ⟨blk u, 0, none⟩) ∧ ∃ cs, cs.size = 9 ∧ Bk w1 (blk u) 53 cs
      | 22 => ∃ cs, d 20 = .agg cs ∧ Bk w1 (blk (d 21)) 53 cs
      | _ => True) ?_ ?_ ?_ ?_
  · intro vs
    exact ⟨(below_drewN (Below.refl _ _) _).drew, (fun j _ hd => by simp at hd), fun i j _ _ hd => by simp at hd⟩
  · intro i j hij hanc u d w1 w2 hr hE
    match i with
    | 0 => exact hr
    | 1 => exact ⟨hr.1, hE.bk hr.2 (by decide)⟩
    | 2 => exact hr
    | 3 => exact ⟨hr.1, hE.bk hr.2 (by decide)⟩
    | 4 => exact hr
    | 5 => exact ⟨hr.1, hE.bk hr.2 (by decide)⟩
    | 6 => exact hr
    | 7 => exact ⟨hr.1, hE.bk hr.2 (by decide)⟩
    | 8 => exact hr
    | 9 => exact ⟨hr.1, hE.bk hr.2 (by decide)⟩
    | 10 => exact hr
    | 11 => exact ⟨hr.1, hE.bk hr.2 (by decide)⟩
    | 12 => exact hr
    | 13 => exact hr
    | 14 => exact hr
    | 15 => exact ⟨hr.1, hE.bk hr.2 (by decide)⟩
    | 16 => exact hr
    | 17 => exact ⟨hr.1, hE.bk hr.2 (by decide)⟩
    | 18 => exact hr
    | 19 => exact ⟨hr.1, hE.bk hr.2 (by decide)⟩
    | 20 => exact hr
    | 21 => obtain ⟨e, cs, e2, hb⟩ := hr; obtain ⟨cs', e3, hb'⟩ := hE.gb hb e2; exact ⟨e, cs', e3, hb'⟩
    | 22 => obtain ⟨cs, e, hb⟩ := hr; exact ⟨cs, e, hb.below (hE.1 (Ne.symm hij)) hb.lt⟩
    | n + 23 => trivial
  · refine ⟨?_, ?_, ?_, ?_, ?_, ?_, ?_, ?_, ?_, ?_, ?_, ?_, ?_, ?_, ?_, ?_, ?_, ?_, ?_, ?_, ?_, ?_, ?_, trivial⟩
    · intro a w1 vs K dn Hb Hb2 HJ HK HD HN kk
      have HJB := HJ.below
      have e3 := HK 3 (by decide)
      go_simp; exact kk _ _ (by simp) (HJ.step 0 _ (Below.refl _ _) (fun h => by cases h)) (.of (Below.refl _ _)) rfl
    · intro a w1 vs K dn Hb Hb2 HJ HK HD HN kk
      have HJB := HJ.below
      have e0 := (HD 0 _ 13 rfl rfl rfl).1.trans (HD 0 _ 13 rfl rfl rfl).2
      obtain ⟨i0, hi, hz0, hz1, hz2⟩ := info_parts infoC_rwith
      refine wpo_make 50 3 (.tmp 13) (.tmp 13) rfl nt (by simpa [Act.eval] using e0) (by simpa [Act.eval] using e0) i0 (.int .i64 0) 1 Tryz.underlying50 hi hz0 hz1 (by omega) (by omega) (by omega) ?_
      have hb : Below w1.heap.size w1 (w1.alloc (.cells (madeCells (Value.cells (.int .i64 0)) (nt * 1)) 3)) := (Below.refl _ _).alloc (Nat.le_refl _) _
      exact kk _ _ (by simp) (HJ.step 1 _ hb (fun _ => by simp [blk])) (.of hb) ⟨rfl, by rw [← made_zeros]; exact Bk.new _ _ _⟩
    · intro a w1 vs K dn Hb Hb2 HJ HK HD HN kk
      have HJB := HJ.below
      have e3 := HK 3 (by decide)
      go_simp; exact kk _ _ (by simp) (HJ.step 2 _ (Below.refl _ _) (fun h => by cases h)) (.of (Below.refl _ _)) rfl
    · intro a w1 vs K dn Hb Hb2 HJ HK HD HN kk
      have HJB := HJ.below
      have e2 := (HD 2 _ 15 rfl rfl rfl).1.trans (HD 2 _ 15 rfl rfl rfl).2
      obtain ⟨i0, hi, hz0, hz1, hz2⟩ := info_parts infoC_rwith
      refine wpo_make 50 3 (.tmp 15) (.tmp 15) rfl nt (by simpa [Act.eval] using e2) (by simpa [Act.eval] using e2) i0 (.int .i64 0) 1 Tryz.underlying50 hi hz0 hz1 (by omega) (by omega) (by omega) ?_
      have hb : Below w1.heap.size w1 (w1.alloc (.cells (madeCells (Value.cells (.int .i64 0)) (nt * 1)) 3)) := (Below.refl _ _).alloc (Nat.le_refl _) _
      exact kk _ _ (by simp) (HJ.step 3 _ hb (fun _ => by simp [blk])) (.of hb) ⟨rfl, by rw [← made_zeros]; exact Bk.new _ _ _⟩
    · intro a w1 vs K dn Hb Hb2 HJ HK HD HN kk
      have HJB := HJ.below
      have e4 := HK 4 (by decide)
      go_simp; exact kk _ _ (by simp) (HJ.step 4 _ (Below.refl _ _) (fun h => by cases h)) (.of (Below.refl _ _)) rfl
    · intro a w1 vs K dn Hb Hb2 HJ HK HD HN kk
      have HJB := HJ.below
      have e4 := (HD 4 _ 17 rfl rfl rfl).1.trans (HD 4 _ 17 rfl rfl rfl).2
      obtain ⟨i0, hi, hz0, hz1, hz2⟩ := info_parts infoC_rwith
      refine wpo_make 50 3 (.tmp 17) (.tmp 17) rfl nv (by simpa [Act.eval] using e4) (by simpa [Act.eval] using e4) i0 (.int .i64 0) 1 Tryz.underlying50 hi hz0 hz1 (by omega) (by omega) (by omega) ?_
      have hb : Below w1.heap.size w1 (w1.alloc (.cells (madeCells (Value.cells (.int .i64 0)) (nv * 1)) 3)) := (Below.refl _ _).alloc (Nat.le_refl _) _
      exact kk _ _ (by simp) (HJ.step 5 _ hb (fun _ => by simp [blk])) (.of hb) ⟨rfl, by rw [← made_zeros]; exact Bk.new _ _ _⟩
    · intro a w1 vs K dn Hb Hb2 HJ HK HD HN kk
      have HJB := HJ.below
      have e4 := HK 4 (by decide)
      go_simp; exact kk _ _ (by simp) (HJ.step 6 _ (Below.refl _ _) (fun h => by cases h)) (.of (Below.refl _ _)) rfl
    · intro a w1 vs K dn Hb Hb2 HJ HK HD HN kk
      have HJB := HJ.below
      have e6 := (HD 6 _ 19 rfl rfl rfl).1.trans (HD 6 _ 19 rfl rfl rfl).2
      obtain ⟨i0, hi, hz0, hz1, hz2⟩ := info_parts infoC_withBool
      refine wpo_make 51 4 (.tmp 19) (.tmp 19) rfl nv (by simpa [Act.eval] using e6) (by simpa [Act.eval] using e6) i0 (.bool false) 1 Tryz.underlying51 hi hz0 hz1 (by omega) (by omega) (by omega) ?_
      have hb : Below w1.heap.size w1 (w1.alloc (.cells (madeCells (Value.cells (.bool false)) (nv * 1)) 4)) := (Below.refl _ _).alloc (Nat.le_refl _) _
      exact kk _ _ (by simp) (HJ.step 7 _ hb (fun _ => by simp [blk])) (.of hb) ⟨rfl, by rw [← made_zeros]; exact Bk.new _ _ _⟩
    · intro a w1 vs K dn Hb Hb2 HJ HK HD HN kk
      have HJB := HJ.below
      have e4 := HK 4 (by decide)
      go_simp; exact kk _ _ (by simp) (HJ.step 8 _ (Below.refl _ _) (fun h => by cases h)) (.of (Below.refl _ _)) rfl
    · intro a w1 vs K dn Hb Hb2 HJ HK HD HN kk
      have HJB := HJ.below
      have e8 := (HD 8 _ 21 rfl rfl rfl).1.trans (HD 8 _ 21 rfl rfl rfl).2
      obtain ⟨i0, hi, hz0, hz1, hz2⟩ := info_parts infoC_withBool
      refine wpo_make 51 4 (.tmp 21) (.tmp 21) rfl nv (by simpa [Act.eval] using e8) (by simpa [Act.eval] using e8) i0 (.bool false) 1 Tryz.underlying51 hi hz0 hz1 (by omega) (by omega) (by omega) ?_
      have hb : Below w1.heap.size w1 (w1.alloc (.cells (madeCells (Value.cells (.bool false)) (nv * 1)) 4)) := (Below.refl _ _).alloc (Nat.le_refl _) _
      exact kk _ _ (by simp) (HJ.step 9 _ hb (fun _ => by simp [blk])) (.of hb) ⟨rfl, by rw [← made_zeros]; exact Bk.new _ _ _⟩
    · intro a w1 vs K dn Hb Hb2 HJ HK HD HN kk
      have HJB := HJ.below
      have e3 := HK 3 (by decide)
      go_simp; exact kk _ _ (by simp) (HJ.step 10 _ (Below.refl _ _) (fun h => by cases h)) (.of (Below.refl _ _)) rfl
    · intro a w1 vs K dn Hb Hb2 HJ HK HD HN kk
      have HJB := HJ.below
      have e10 := (HD 10 _ 23 rfl rfl rfl).1.trans (HD 10 _ 23 rfl rfl rfl).2
      obtain ⟨i0, hi, hz0, hz1, hz2⟩ := info_parts infoC_rwith
      refine wpo_make 50 3 (.tmp 23) (.tmp 23) rfl nt (by simpa [Act.eval] using e10) (by simpa [Act.eval] using e10) i0 (.int .i64 0) 1 Tryz.underlying50 hi hz0 hz1 (by omega) (by omega) (by omega) ?_
      have hb : Below w1.heap.size w1 (w1.alloc (.cells (madeCells (Value.cells (.int .i64 0)) (nt * 1)) 3)) := (Below.refl _ _).alloc (Nat.le_refl _) _
      exact kk _ _ (by simp) (HJ.step 11 _ hb (fun _ => by simp [blk])) (.of hb) ⟨rfl, by rw [← made_zeros]; exact Bk.new _ _ _⟩
    · intro a w1 vs K dn Hb Hb2 HJ HK HD HN kk
      have HJB := HJ.below
      have k1 := HK 1 (by decide); go_simp; exact kk _ _ (by simp) (HJ.step 12 _ (Below.refl _ _) (fun h => by cases h)) (.of (Below.refl _ _)) rfl
    · intro a w1 vs K dn Hb Hb2 HJ HK HD HN kk
      have HJB := HJ.below
      have e12 := (HD 12 _ 25 rfl rfl rfl).1.trans (HD 12 _ 25 rfl rfl rfl).2
      have hc : w1.cell? ⟨w.heap.size, 2, none⟩ = some (.slice x.lA nl x.lc) := by rw [HNN.out.2.2]; exact (HP.out.below HJB HP.out.lt).cell 2
      go_simp; exact kk _ _ (by simp) (HJ.step 13 _ (Below.refl _ _) (fun h => by cases h)) (.of (Below.refl _ _)) rfl
    · intro a w1 vs K dn Hb Hb2 HJ HK HD HN kk
      have HJB := HJ.below
      have e13 := (HD 13 _ 26 rfl rfl rfl).1.trans (HD 13 _ 26 rfl rfl rfl).2; go_simp; exact kk _ _ (by simp) (HJ.step 14 _ (Below.refl _ _) (fun h => by cases h)) (.of (Below.refl _ _)) rfl
    · intro a w1 vs K dn Hb Hb2 HJ HK HD HN kk
      have HJB := HJ.below
      have e14 := (HD 14 _ 27 rfl rfl rfl).1.trans (HD 14 _ 27 rfl rfl rfl).2
      obtain ⟨i0, hi, hz0, hz1, hz2⟩ := info_parts infoC_rwith
      refine wpo_make 50 3 (.tmp 27) (.tmp 27) rfl nl (by simpa [Act.eval] using e14) (by simpa [Act.eval] using e14) i0 (.int .i64 0) 1 Tryz.underlying50 hi hz0 hz1 (by omega) (by omega) (by omega) ?_
      have hb : Below w1.heap.size w1 (w1.alloc (.cells (madeCells (Value.cells (.int .i64 0)) (nl * 1)) 3)) := (Below.refl _ _).alloc (Nat.le_refl _) _
      exact kk _ _ (by simp) (HJ.step 15 _ hb (fun _ => by simp [blk])) (.of hb) ⟨rfl, by rw [← made_zeros]; exact Bk.new _ _ _⟩
    · intro a w1 vs K dn Hb Hb2 HJ HK HD HN kk
      have HJB := HJ.below
      have e3 := HK 3 (by decide)
      go_simp; exact kk _ _ (by simp) (HJ.step 16 _ (Below.refl _ _) (fun h => by cases h)) (.of (Below.refl _ _)) rfl
    · intro a w1 vs K dn Hb Hb2 HJ HK HD HN kk
      have HJB := HJ.below
      have e16 := (HD 16 _ 29 rfl rfl rfl).1.trans (HD 16 _ 29 rfl rfl rfl).2
      obtain ⟨i0, hi, hz0, hz1, hz2⟩ := info_parts infoC_rwith
      refine wpo_make 50 3 (.tmp 29) (.tmp 29) rfl nt (by simpa [Act.eval] using e16) (by simpa [Act.eval] using e16) i0 (.int .i64 0) 1 Tryz.underlying50 hi hz0 hz1 (by omega) (by omega) (by omega) ?_
      have hb : Below w1.heap.size w1 (w1.alloc (.cells (madeCells (Value.cells (.int .i64 0)) (nt * 1)) 3)) := (Below.refl _ _).alloc (Nat.le_refl _) _
      exact kk _ _ (by simp) (HJ.step 17 _ hb (fun _ => by simp [blk])) (.of hb) ⟨rfl, by rw [← made_zeros]; exact Bk.new _ _ _⟩
    · intro a w1 vs K dn Hb Hb2 HJ HK HD HN kk
      have HJB := HJ.below
      have e3 := HK 3 (by decide)
      go_simp; exact kk _ _ (by simp) (HJ.step 18 _ (Below.refl _ _) (fun h => by cases h)) (.of (Below.refl _ _)) rfl
    · intro a w1 vs K dn Hb Hb2 HJ HK HD HN kk
      have HJB := HJ.below
      have e18 := (HD 18 _ 31 rfl rfl rfl).1.trans (HD 18 _ 31 rfl rfl rfl).2
      obtain ⟨i0, hi, hz0, hz1, hz2⟩ := info_parts infoC_rwith
      refine wpo_make 50 3 (.tmp 31) (.tmp 31) rfl nt (by simpa [Act.eval] using e18) (by simpa [Act.eval] using e18) i0 (.int .i64 0) 1 Tryz.underlying50 hi hz0 hz1 (by omega) (by omega) (by omega) ?_
      have hb : Below w1.heap.size w1 (w1.alloc (.cells (madeCells (Value.cells (.int .i64 0)) (nt * 1)) 3)) := (Below.refl _ _).alloc (Nat.le_refl _) _
      exact kk _ _ (by simp) (HJ.step 19 _ hb (fun _ => by simp [blk])) (.of hb) ⟨rfl, by rw [← made_zeros]; exact Bk.new _ _ _⟩
    · intro a w1 vs K dn Hb Hb2 HJ HK HD HN kk
      have HJB := HJ.below
      obtain ⟨q1, r1, _⟩ := HD 1 _ 14 rfl rfl rfl
      have e1 := q1.trans r1
      obtain ⟨q3, r3, _⟩ := HD 3 _ 16 rfl rfl rfl
      have e3 := q3.trans r3
      obtain ⟨q5, r5, _⟩ := HD 5 _ 18 rfl rfl rfl
      have e5 := q5.trans r5
      obtain ⟨q7, r7, _⟩ := HD 7 _ 20 rfl rfl rfl
      have e7 := q7.trans r7
      obtain ⟨q9, r9, _⟩ := HD 9 _ 22 rfl rfl rfl
      have e9 := q9.trans r9
      obtain ⟨q11, r11, _⟩ := HD 11 _ 24 rfl rfl rfl
      have e11 := q11.trans r11
      obtain ⟨q15, r15, _⟩ := HD 15 _ 28 rfl rfl rfl
      have e15 := q15.trans r15
      obtain ⟨q17, r17, _⟩ := HD 17 _ 30 rfl rfl rfl
      have e17 := q17.trans r17
      obtain ⟨q19, r19, _⟩ := HD 19 _ 32 rfl rfl rfl
      have e19 := q19.trans r19
      have hbu := built_state (bgX (bgB vs) nt nv nl) nt nv nl
      have hev : (Array.map (fun (i, x) => (i, a.eval x)) #[(0, Operand.tmp 14), (1, .tmp 16), (2, .tmp 18), (3, .tmp 20), (4, .tmp 22), (5, .tmp 24), (6, .tmp 28), (7, .tmp 30), (8, .tmp 32)]).toList = [(0, .slice (some ⟨blk (vs 1), 0, none⟩) nt nt), (1, .slice (some ⟨blk (vs 3), 0, none⟩) nt nt), (2, .slice (some ⟨blk (vs 5), 0, none⟩) nv nv), (3, .slice (some ⟨blk (vs 7), 0, none⟩) nv nv), (4, .slice (some ⟨blk (vs 9), 0, none⟩) nv nv), (5, .slice (some ⟨blk (vs 11), 0, none⟩) nt nt), (6, .slice (some ⟨blk (vs 15), 0, none⟩) nl nl), (7, .slice (some ⟨blk (vs 17), 0, none⟩) nt nt), (8, .slice (some ⟨blk (vs 19), 0, none⟩) nt nt)] := by
        simp [Act.eval, e1, e3, e5, e7, e9, e11, e15, e17, e19]
      simp only [bgX, bgB, mI, lenN] at hbu
      refine wp_build 53 _ rfl (by rw [hev, hbu]; rfl) ?_
      rw [hev, hbu]
      exact kk _ _ (by simp) (HJ.step 20 _ (Below.refl _ _) (fun h => by cases h)) (.of (Below.refl _ _)) rfl
    · intro a w1 vs K dn Hb Hb2 HJ HK HD HN kk
      have HJB := HJ.below
      go_simp
      have hb : ∀ o, Below w1.heap.size w1 (w1.alloc o) := fun o => (Below.refl _ _).alloc (Nat.le_refl _) _
      exact kk _ _ (by simp) (HJ.step 21 _ (hb _) (fun _ => by simp [blk])) (.of (hb _)) ⟨rfl, _, rfl, Bk.new _ _ _⟩
    · intro a w1 vs K dn Hb Hb2 HJ HK HD HN kk
      have HJB := HJ.below
      obtain ⟨q20, r20⟩ := HD 20 _ 33 rfl rfl rfl
      obtain ⟨q21, r21, cs, s21, b21⟩ := HD 21 _ 5 rfl rfl rfl
      have hd21 : dn 21 = true := Hb2 21 (by decide)
      refine wpo_storeS 53 (.tmp 5) (.tmp 33) rfl rfl (blk (vs 21)) 0 (by simpa [Act.eval] using q21.trans r21) _ (by simpa [Act.eval] using q20.trans r20) 53 cs b21 (by rw [refA_size, s21]; omega) (refA_one _ _ _ _) info_state ?_
      intro w2 hk2 ho
      rw [splA_all _ _ (by rw [refA_size, s21])] at hk2
      exact kk undef _ (by simp) (HJ.only hd21 ho) ⟨fun h => absurd rfl h, .inr ⟨_, _, ho, ⟨cs, b21⟩, hk2, refA_size _ _ _ _⟩⟩ ⟨_, r20, hk2⟩
  · intro vs dn w1 hdn HJ hr
    have d20 : vs 20 = .agg (refA (bgX (bgB vs) nt nv nl) nt nv nl) := hr 20 _ rfl
    obtain ⟨d21, _⟩ := hr 21 _ rfl
    obtain ⟨cs, d22, b22⟩ := hr 22 _ rfl
    have d22 : vs 20 = .agg cs := d22
    have b22 : Bk w1 (blk (vs 21)) 53 cs := b22
    rw [d20] at d22
    injection d22 with d22
    subst d22
    have hbk : ∀ j, j < 9 → Bk w1 (bgB vs j) (tyR j) (lisR (lenN nt nv nl j) (valR (begS p 0) j)) := by
      intro j hj
      rw [show valR (begS p 0) j = _ from begS_zero p j hj]
      match j, hj with
      | 0, _ => exact (hr 1 _ rfl).2
      | 1, _ => exact (hr 3 _ rfl).2
      | 2, _ => exact (hr 5 _ rfl).2
      | 3, _ => exact (hr 7 _ rfl).2
      | 4, _ => exact (hr 9 _ rfl).2
      | 5, _ => exact (hr 11 _ rfl).2
      | 6, _ => exact (hr 15 _ rfl).2
      | 7, _ => exact (hr 17 _ rfl).2
      | 8, _ => exact (hr 19 _ rfl).2
    have hBL : BgL w1 (w.heap.size + 2) nt nv nl (bgB vs) (blk (vs 21)) (valR (begS p 0)) :=
      ⟨hbk, fun i j hi hj hne => HJ.ne _ _ (mI_own i hi).1 (mI_own j hj).1 (hdn _ (mI_own i hi).2) (hdn _ (mI_own j hj).2) (mI_inj i hi j hj hne),
        fun j hj => by have := (HJ.own _ (mI_own j hj).1 (hdn _ (mI_own j hj).2)).1; show w.heap.size + 2 ≤ blk (vs (mI j)); omega, b22, by have := (HJ.own 21 rfl (hdn 21 (by decide))).1; omega⟩
    have hBR : BgR w x p nt nv nl (bgB vs) (blk (vs 21)) w1 0 := ⟨hBL, HP.out.below HJ.below HP.out.lt, HQ.out.below HJ.below HQ.out.lt, HPL.out.below (HJ.below.mono (by omega)), HB.out.trans (HJ.below.mono (by omega))⟩
    clear hbk hBL b22 d20 hr hdn c0 c1 HW HJ HP HQ HB HPL
    obtain ⟨sb, hsb⟩ : ∃ sb, sb = blk (vs 21) := ⟨_, rfl⟩
    obtain ⟨B, hBv⟩ : ∃ B, B = bgB vs := ⟨_, rfl⟩
    rw [← hsb] at d21 hBR
    rw [← hBv] at hBR
    clear hsb hBv
    simp only [putAll, Act.put, d21]
    clear d21
    have HM0 := Lib.hid hBR
    clear hBR hWs
    go_wp2_with fail
    go_loopw [6] (fun i wr => ∃ k : Nat, k ≤ nv ∧ i = .int .i64 k ∧ Hid (BgR w x p nt nv nl B sb wr k)) (fun i _ => nv - (intOf i).toNat)
    case atStart => exact ⟨0, Nat.zero_le _, rfl, HM0⟩
    case round =>
      obtain ⟨k, hk, rfl, hM⟩ := hrel
      clear HM0
      by_cases hlt : k < nv
      · obtain ⟨hl, hb0, _, hp, hb⟩ := hM.out
        have hlt' : k < p.valves.length := by rw [← HNN.out.2.1]; exact hlt
        obtain ⟨bv, ov, hAv, hBv, _, d1, d2⟩ := hp.valves.at3 hlt'
        simp only [valveC] at d1 d2
        have hki : (k : Int) < (nv : Int) := by omega
        have h0k : (0 : Int) ≤ (k : Int) := by omega
        have cv : wr.cell? ⟨w.heap.size, 1, none⟩ = some (.slice (some ⟨bv, ov, none⟩) nv x.vc) := by rw [← hAv, HNN.out.2.1]; exact hb0.cell 1
        cases ho : (p.valve k).opn with
        | false =>
          have HE := Lib.hid (begS_keep p k ho)
          rw [ho] at d2
          clear hl hb0 hp hb hAv ho d1
          go_wp2_with fail
          go_roundw
          case rel => exact ⟨k + 1, by omega, by go_num, Lib.hid (by have := hM.out; unfold BgR at this ⊢; rw [HE.out]; exact this)⟩
          case measure => simp [intOf]; omega
        | true =>
          have HE := Lib.hid (begS_set p k ho)
          rw [ho] at d2
          have e2 : wr.cell? ⟨sb, 2, none⟩ = some (.slice (some ⟨B 2, 0, none⟩) nv nv) := hl.st.cell 2
          have e3 : wr.cell? ⟨sb, 3, none⟩ = some (.slice (some ⟨B 3, 0, none⟩) nv nv) := hl.st.cell 3
          have p2 := hl.cell 2 k (by omega) hlt
          have p3 := hl.cell 3 k (by omega) hlt
          have f2 := (hl.bk 2 (by omega)).free k
          have f3 := (hl.bk 3 (by omega)).free k
          have n23 := hl.ne 2 3 (by omega) (by omega) (by omega)
          have n32 := hl.ne 3 2 (by omega) (by omega) (by omega)
          have ns2 : B 2 ≠ sb := (hl.bk 2 (by omega)).ne hl.st (tyR_ne 2)
          have ns3 : B 3 ≠ sb := (hl.bk 3 (by omega)).ne hl.st (tyR_ne 3)
          have ns2' := Ne.symm ns2
          have ns3' := Ne.symm ns3
          clear hl hb0 hp hb hAv ho
          go_wp2_with fail
          go_region
          go_wp2_with fail
          go_roundw
          case rel => exact ⟨k + 1, by omega, by go_num, Lib.hid (hM.out.step HE.out)⟩
          case measure => simp [intOf]; omega
      · obtain rfl : k = nv := by omega
        have HF := Lib.hid hM.out.1.st
        have HQ5 := Lib.hid hM.out.2.2.1
        clear hlt
        go_wp2_with (first | (refine wpLoadAt rfl 53 _ rfl sb 0 rfl (refA (bgX B nt k nl) nt k nl) _ (fun j u hj => by rw [Nat.zero_add]; exact (HF.out.cell j).trans hj) und_state rfl info_state ?_) | (refine wpStoreAt rfl rfl 53 _ _ rfl (w.heap.size + 1) 0 rfl (refA (bgX B nt k nl) nt k nl) rfl 53 _ HQ5.out (by show 0 + 9 ≤ 9; omega) (refA_one _ _ _ _) info_state ?_; intro wf hkf hof))
        refine bodyPost_ret (results_cellS rfl _ _ (w.heap.size + 1) 53 (refA (bgX B nt k nl) nt k nl) _ rfl (by rw [splA_all _ _ (by rw [refA_size, refA_size])] at hkf; exact hkf) und_state rfl info_state) rfl ?_
        obtain ⟨h1, _, _, _, h5⟩ := hM.out
        obtain ⟨n1, n2, n3⟩ := HNN.out
        subst n1
        subst n3
        have hr : ∀ j, j < 9 → Sl wr wr.heap.size 1 ((bgX B p.tanks.length p.valves.length p.lines.length).a j) (lenR (startB p).p j) fun i _ => valR (startB p) j i := by
          rw [n2] at h1
          exact h1.ref HS.out _ rfl (fun j hj i hi => by rw [← begS_all])
        have hin : RefIn wr (fun b => w.heap.size + 2 ≤ b ∧ b < wr.heap.size) (bgX B p.tanks.length p.valves.length p.lines.length) (startB p) := fun j hj => by
          refine SlO.of_new (D := fun b => w.heap.size + 2 ≤ b ∧ b < wr.heap.size) ?_ (Nat.le_trans HT.out h5.size) fun b hb => ⟨hb, by have := HT.out; omega⟩
          refine ⟨(hr j hj).1, fun hp => ?_⟩
          obtain ⟨b, off, e, hb, hc⟩ := (hr j hj).2 hp
          refine ⟨b, off, e, ⟨?_, hb⟩, hc⟩
          have : B j = b := by injection e with e; injection e
          have := h1.low j hj
          omega
        have hfin := (hin.keep (w' := wf) (fun b hb => hof.block b (by omega)) (by rw [hof.size]; exact Nat.le_refl _)).at_ (B := wf.heap.size) (fun b hb => by rw [hof.size]; exact hb.2)
        rw [n2]
        exact ⟨_, rfl, hfin, h5.trans (hof.below (by omega))⟩
end Go.Proofs.YtogobjmmgjfjjaaGreat
/- What is proved: contracts of ullageref07's tanks, valves. Conditions: the list lies in memory. -/
namespace Go.Proofs.YtogobjmmgjfjjaaGreat
open Go.RowKit

theorem bytes_beq (a b : ByteArray) : (a.toList == b.toList) = decide (a = b) := by
  by_cases h : a = b
  · subst h; simp
  · simp only [h, decide_false]
    rw [beq_eq_false_iff_ne]
    intro h2
    apply h
    rw [Go.ByteArray.toList_eq, Go.ByteArray.toList_eq] at h2
    cases a; cases b
    simp only at h2
    rw [Array.toList_inj.1 h2]
theorem apart_size {n : Nat} {s : Nat → ByteArray} {k : Nat} (m : Int) (hk : k < n) (h : inB (s k).size 1 32 = false) : apartB n s m = false := by
  have : (allN n fun i => inB (s i).size 1 32 && allN i fun j => !decide (s j = s i)) = false := by
    unfold allN; rw [List.all_eq_false]
    exact ⟨k, by simpa using hk, by simp [h]⟩
  unfold apartB; rw [this]; rfl
theorem apart_same {n : Nat} {s : Nat → ByteArray} {j k : Nat} (m : Int) (hj : j < k) (hk : k < n) (h : s j = s k) : apartB n s m = false := by
  have : (allN n fun i => inB (s i).size 1 32 && allN i fun j => !decide (s j = s i)) = false := by
    unfold allN; rw [List.all_eq_false]
    refine ⟨k, by simpa using hk, ?_⟩
    simp only [Bool.and_eq_true, List.all_eq_true, List.mem_range]
    rintro ⟨_, hc⟩
    have := hc j hj; simp [h] at this
  unfold apartB; rw [this]; rfl
theorem apart_all {n : Nat} {s : Nat → ByteArray} (m : Int) (h : ∀ i, i < n → inB (s i).size 1 32 = true ∧ ∀ j, j < i → s j ≠ s i) : apartB n s m = inB n 1 m := by
  have : (allN n fun i => inB (s i).size 1 32 && allN i fun j => !decide (s j = s i)) = true := by
    unfold allN; rw [List.all_eq_true]
    intro i hi
    have := h i (by simpa using hi)
    rw [this.1, Bool.true_and, List.all_eq_true]
    intro j hj
    have := this.2 j (by simpa using hj)
    simp [this]
  unfold apartB; rw [this]; simp
theorem allN_false {n : Nat} {q : Nat → Bool} {k : Nat} (hk : k < n) (h : q k = false) : allN n q = false := by unfold allN; rw [List.all_eq_false]; exact ⟨k, by simpa using hk, by simp [h]⟩
theorem allN_true {n : Nat} {q : Nat → Bool} (h : ∀ i, i < n → q i = true) : allN n q = true := by unfold allN; rw [List.all_eq_true]; intro i hi; exact h i (by simpa using hi)

set_option maxRecDepth 100000 in
set_option maxHeartbeats 2000000 in
theorem refTanks_any (w : World) (A : Option Addr) (n c : Nat) (T : Nat → TankD) (h : Sl w w.heap.size 4 A n fun i => tankC (T i)) :
    Calls Tryz.prog 58 #[.slice A n c] w fun e w' => e = .returned (.bool (apartB n (fun i => (T i).name) 16 && allN n fun i => tankOk (T i))) ∧ Below w.heap.size w w' := by
  have hn := h.1
  have HSL := Lib.hid h
  clear h
  go_enter Tryz.func58, Tryz.ntmps58
  go_wp2_with fail
  go_loopw [3] (fun i wr => ∃ k : Nat, k ≤ n ∧ i = .int .i64 k ∧ Hid (∀ i, i < k → (inB (T i).name.size 1 32 = true ∧ ∀ j, j < i → (T j).name ≠ (T i).name) ∧ tankOk (T i) = true) ∧ Hid (Below w.heap.size w wr)) (fun i _ => n - (intOf i).toNat)
  case atStart => exact ⟨0, Nat.zero_le _, rfl, Lib.hid fun j hj => absurd hj (by omega), Lib.hid (Below.refl _ _)⟩
  case round =>
    obtain ⟨k, hk, rfl, hall, hb⟩ := hrel
    by_cases hlt : k < n
    · obtain ⟨b, off, rfl, hB, c0, c1, c2, c3⟩ := (HSL.out.below hb.out).at4 hlt
      simp only [tankC] at c0 c1 c2 c3
      have hki : (k : Int) < (n : Int) := by omega
      have h0k : (0 : Int) ≤ (k : Int) := by omega
      cases h0 : inB (T k).name.size 1 32 with
      | false =>
        have Hf := Lib.hid (show (apartB n (fun i => (T i).name) 16 && allN n fun i => tankOk (T i)) = false from by rw [apart_size 16 hlt h0]; rfl)
        clear hall
        go_wp2_with (go_at_call 76; refine (in_any _ _ _ _).mono ?_; rintro e w' ⟨rfl, rfl⟩)
        go_ret
        exact ⟨ret_bool Hf.out.symm, hb.out⟩
      | true =>
      cases h1 : inB (T k).room 1 1073741824 with
      | false =>
        have Hf := Lib.hid (show (apartB n (fun i => (T i).name) 16 && allN n fun i => tankOk (T i)) = false from by rw [allN_false hlt (show tankOk (T k) = false from by unfold tankOk; simp [h1])]; exact Bool.and_false _)
        clear hall
        go_wp2_with (go_at_call 76; refine (in_any _ _ _ _).mono ?_; rintro e w' ⟨rfl, rfl⟩)
        go_ret
        exact ⟨ret_bool Hf.out.symm, hb.out⟩
      | true =>
      cases h2 : inB (T k).least 1 1073741824 with
      | false =>
        have Hf := Lib.hid (show (apartB n (fun i => (T i).name) 16 && allN n fun i => tankOk (T i)) = false from by rw [allN_false hlt (show tankOk (T k) = false from by unfold tankOk; simp [h2])]; exact Bool.and_false _)
        clear hall
        go_wp2_with (go_at_call 76; refine (in_any _ _ _ _).mono ?_; rintro e w' ⟨rfl, rfl⟩)
        go_ret
        exact ⟨ret_bool Hf.out.symm, hb.out⟩
      | true =>
      cases h3 : inB (T k).limit 0 1073741824 with
      | false =>
        have Hf := Lib.hid (show (apartB n (fun i => (T i).name) 16 && allN n fun i => tankOk (T i)) = false from by rw [allN_false hlt (show tankOk (T k) = false from by unfold tankOk; simp [h3])]; exact Bool.and_false _)
        clear hall
        go_wp2_with (go_at_call 76; refine (in_any _ _ _ _).mono ?_; rintro e w' ⟨rfl, rfl⟩)
        go_ret
        exact ⟨ret_bool Hf.out.symm, hb.out⟩
      | true =>
      have hok := Lib.hid (show tankOk (T k) = true from by unfold tankOk; simp [h1, h2, h3])
      go_wp2_with (go_at_call 76; refine (in_any _ _ _ _).mono ?_; rintro e w' ⟨rfl, rfl⟩)
      go_loopw [4] (fun i wr => ∃ j : Nat, j ≤ k ∧ i = .int .i64 j ∧ Hid (∀ l, l < j → (T l).name ≠ (T k).name) ∧ Hid (Below w.heap.size w wr)) (fun i _ => k - (intOf i).toNat)
      case atStart => exact ⟨0, Nat.zero_le _, rfl, Lib.hid fun j hj => absurd hj (by omega), hb⟩
      case round =>
        obtain ⟨j, hj, rfl, hdiff, hbj⟩ := hrel
        clear c0 c1 c2 c3
        by_cases hjk : j < k
        · obtain ⟨b2, off2, e2, hB2, c0, _⟩ := (HSL.out.below hbj.out).at4 hlt
          obtain ⟨b3, off3, e3, hB3, d0, _⟩ := (HSL.out.below hbj.out).at4 (show j < n by omega)
          cases e2
          cases e3
          simp only [tankC] at c0 d0
          have hji : (j : Int) < (n : Int) := by omega
          have h0j : (0 : Int) ≤ (j : Int) := by omega
          have hjki : (j : Int) < (k : Int) := by omega
          by_cases he : (T j).name = (T k).name
          · have Hf := Lib.hid (show (apartB n (fun i => (T i).name) 16 && allN n fun i => tankOk (T i)) = false from by rw [apart_same 16 hjk hlt he]; rfl)
            clear hall hdiff
            have he1 : ((T j).name.toList == (T k).name.toList) = true := by rw [bytes_beq]; exact decide_eq_true he
            clear he
            go_wp2_with fail
            go_quiet (fail)
            go_wp2_with fail
            go_ret
            exact ⟨ret_bool Hf.out.symm, below_drewN hbj.out _⟩
          · have Hn := Lib.hid he
            have he1 : ((T j).name.toList == (T k).name.toList) = false := by rw [bytes_beq]; exact decide_eq_false he
            go_wp2_with fail
            go_quiet (fail)
            go_wp2_with fail
            go_roundw
            case rel => exact ⟨j + 1, by omega, by go_num, Lib.hid (fun l hl => by
              by_cases e : l = j
              · subst e; exact Hn.out
              · exact hdiff.out l (by omega)), Lib.hid (below_drewN hbj.out _)⟩
            case measure => simp [intOf]; omega
        · obtain rfl : j = k := by omega
          go_wp2_with fail
          go_roundw
          case rel => exact ⟨j + 1, by omega, by go_num, Lib.hid (fun i hi => by
            by_cases e : i = j
            · subst e; exact ⟨⟨h0, hdiff.out⟩, hok.out⟩
            · exact hall.out i (by omega)), hbj⟩
          case measure => simp [intOf]; omega
    · obtain rfl : k = n := by omega
      have Hf := Lib.hid (show (apartB k (fun i => (T i).name) 16 && allN k fun i => tankOk (T i)) = inB k 1 16 from by rw [apart_all 16 (fun i hi => (hall.out i hi).1), allN_true (fun i hi => (hall.out i hi).2)]; exact Bool.and_true _)
      clear hall
      go_wp2_with (go_at_call 76; refine (in_any _ _ _ _).mono ?_; rintro e w' ⟨rfl, rfl⟩)
      go_ret
      exact ⟨ret_bool Hf.out.symm, hb.out⟩

set_option maxRecDepth 100000 in
set_option maxHeartbeats 2000000 in
theorem refValves_any (w : World) (A : Option Addr) (n c : Nat) (T : Nat → ValveD) (h : Sl w w.heap.size 3 A n fun i => valveC (T i)) :
    Calls Tryz.prog 59 #[.slice A n c] w fun e w' => e = .returned (.bool (apartB n (fun i => (T i).name) 12 && allN n fun i => valveOk (T i))) ∧ Below w.heap.size w w' := by
  have hn := h.1
  have HSL := Lib.hid h
  clear h
  go_enter Tryz.func59, Tryz.ntmps59
  go_wp2_with fail
  go_loopw [3] (fun i wr => ∃ k : Nat, k ≤ n ∧ i = .int .i64 k ∧ Hid (∀ i, i < k → (inB (T i).name.size 1 32 = true ∧ ∀ j, j < i → (T j).name ≠ (T i).name) ∧ valveOk (T i) = true) ∧ Hid (Below w.heap.size w wr)) (fun i _ => n - (intOf i).toNat)
  case atStart => exact ⟨0, Nat.zero_le _, rfl, Lib.hid fun j hj => absurd hj (by omega), Lib.hid (Below.refl _ _)⟩
  case round =>
    obtain ⟨k, hk, rfl, hall, hb⟩ := hrel
    by_cases hlt : k < n
    · obtain ⟨b, off, rfl, hB, c0, c1, c2⟩ := (HSL.out.below hb.out).at3 hlt
      simp only [valveC] at c0 c1 c2
      have hki : (k : Int) < (n : Int) := by omega
      have h0k : (0 : Int) ≤ (k : Int) := by omega
      cases h0 : inB (T k).name.size 1 32 with
      | false =>
        have Hf := Lib.hid (show (apartB n (fun i => (T i).name) 12 && allN n fun i => valveOk (T i)) = false from by rw [apart_size 12 hlt h0]; rfl)
        clear hall
        go_wp2_with (go_at_call 76; refine (in_any _ _ _ _).mono ?_; rintro e w' ⟨rfl, rfl⟩)
        go_ret
        exact ⟨ret_bool Hf.out.symm, hb.out⟩
      | true =>
      cases h1 : inB (T k).travel 1 8 with
      | false =>
        have Hf := Lib.hid (show (apartB n (fun i => (T i).name) 12 && allN n fun i => valveOk (T i)) = false from by rw [allN_false hlt (show valveOk (T k) = false from by unfold valveOk; simp [h1])]; exact Bool.and_false _)
        clear hall
        go_wp2_with (go_at_call 76; refine (in_any _ _ _ _).mono ?_; rintro e w' ⟨rfl, rfl⟩)
        go_ret
        exact ⟨ret_bool Hf.out.symm, hb.out⟩
      | true =>
      have hok := Lib.hid (show valveOk (T k) = true from by unfold valveOk; simp [h1])
      go_wp2_with (go_at_call 76; refine (in_any _ _ _ _).mono ?_; rintro e w' ⟨rfl, rfl⟩)
      go_loopw [4] (fun i wr => ∃ j : Nat, j ≤ k ∧ i = .int .i64 j ∧ Hid (∀ l, l < j → (T l).name ≠ (T k).name) ∧ Hid (Below w.heap.size w wr)) (fun i _ => k - (intOf i).toNat)
      case atStart => exact ⟨0, Nat.zero_le _, rfl, Lib.hid fun j hj => absurd hj (by omega), hb⟩
      case round =>
        obtain ⟨j, hj, rfl, hdiff, hbj⟩ := hrel
        clear c0 c1 c2
        by_cases hjk : j < k
        · obtain ⟨b2, off2, e2, hB2, c0, _⟩ := (HSL.out.below hbj.out).at3 hlt
          obtain ⟨b3, off3, e3, hB3, d0, _⟩ := (HSL.out.below hbj.out).at3 (show j < n by omega)
          cases e2
          cases e3
          simp only [valveC] at c0 d0
          have hji : (j : Int) < (n : Int) := by omega
          have h0j : (0 : Int) ≤ (j : Int) := by omega
          have hjki : (j : Int) < (k : Int) := by omega
          by_cases he : (T j).name = (T k).name
          · have Hf := Lib.hid (show (apartB n (fun i => (T i).name) 12 && allN n fun i => valveOk (T i)) = false from by rw [apart_same 12 hjk hlt he]; rfl)
            clear hall hdiff
            have he1 : ((T j).name.toList == (T k).name.toList) = true := by rw [bytes_beq]; exact decide_eq_true he
            clear he
            go_wp2_with fail
            go_quiet (fail)
            go_wp2_with fail
            go_ret
            exact ⟨ret_bool Hf.out.symm, below_drewN hbj.out _⟩
          · have Hn := Lib.hid he
            have he1 : ((T j).name.toList == (T k).name.toList) = false := by rw [bytes_beq]; exact decide_eq_false he
            go_wp2_with fail
            go_quiet (fail)
            go_wp2_with fail
            go_roundw
            case rel => exact ⟨j + 1, by omega, by go_num, Lib.hid (fun l hl => by
              by_cases e : l = j
              · subst e; exact Hn.out
              · exact hdiff.out l (by omega)), Lib.hid (below_drewN hbj.out _)⟩
            case measure => simp [intOf]; omega
        · obtain rfl : j = k := by omega
          go_wp2_with fail
          go_roundw
          case rel => exact ⟨j + 1, by omega, by go_num, Lib.hid (fun i hi => by
            by_cases e : i = j
            · subst e; exact ⟨⟨h0, hdiff.out⟩, hok.out⟩
            · exact hall.out i (by omega)), hbj⟩
          case measure => simp [intOf]; omega
    · obtain rfl : k = n := by omega
      have Hf := Lib.hid (show (apartB k (fun i => (T i).name) 12 && allN k fun i => valveOk (T i)) = inB k 1 12 from by rw [apart_all 12 (fun i hi => (hall.out i hi).1), allN_true (fun i hi => (hall.out i hi).2)]; exact Bool.and_true _)
      clear hall
      go_wp2_with (go_at_call 76; refine (in_any _ _ _ _).mono ?_; rintro e w' ⟨rfl, rfl⟩)
      go_ret
      exact ⟨ret_bool Hf.out.symm, hb.out⟩
end Go.Proofs.YtogobjmmgjfjjaaGreat
